/- The abstract evaluator: loads, stores, new variables. Conditions: none. -/
import Derived.Test.YtjchnliaglecoaaGreatDoorAmBX
import Derived.Laws.Build
import Derived.Laws.Slices
set_option linter.unusedVariables false
set_option linter.unusedSimpArgs false
namespace Go.Am
open Go Go.RowKit
set_option linter.unusedVariables false
set_option linter.unusedSimpArgs false
variable {μ : Type} {I : MemI μ} {P : Program} {lo : Lim} {w0 : Bs} {E : Env} {H : (Nat → Option Obj) → Prop}

/-- The evaluation of what does not look at the world. -/
def pureRun {α : Type} (P : Program) : Sem α → Option α
  | .pure a => some a
  | .program k => pureRun P (k P)
  | .mark _ k => pureRun P k
  | _ => none
theorem pureRun_run {α : Type} {c : Sem α} {b : α} (h : pureRun P c = some b) (w : World) : c.run P w = .ok b w := by
  induction c with
  | pure a => simp [pureRun] at h; subst h; rfl
  | program k ih => simp only [pureRun] at h; exact ih P h
  | mark m k ih => simp only [pureRun] at h; exact ih h
  | _ => simp [pureRun] at h

def arg (ev : Operand → Option Value) (x : Operand) : M I Value := match ev x with
  | some v => pure v
  | none => fail
theorem pure_bind_eq {α β : Type} (a : α) (f : α → M I β) : ((Pure.pure a : M I α) >>= f).run = (f a).run := rfl
theorem Sim.congr {α β : Type} {m m' : M I α} {c : Sem β} {R : Env → α → β → Prop} (he : m.run = m'.run) (h : Sim P lo w0 E H m' c R) : Sim P lo w0 E H m c R :=
  fun s a s' hr => h s a s' (by rw [← he]; exact hr)
theorem Sim.arg {α β : Type} {ev : Operand → Option Value} {ρ : Operand → Value} {x : Operand} {f : Value → M I α} {c : Sem β} {R : Env → α → β → Prop}
    (hρ : ∀ x v, ev x = some v → VR E v (ρ x)) (h : ∀ v, VR E v (ρ x) → Sim P lo w0 E H (f v) c R) : Sim P lo w0 E H (arg ev x >>= f) c R := by
  unfold Am.arg
  cases e : ev x with
  | none => exact fun s a s' hr => by obtain ⟨a1, s1, h1, h2⟩ := bind_run hr; exact (fail_run h1).elim
  | some v => exact Sim.congr (pure_bind_eq v f) (h v (hρ x v e))

theorem Rel.cells {g : Nat → Option Obj} {w : World} (h : Rel P lo w0 E g w) {k : Nat} {c : Array Value} {e : TypeId} {fr : Nat × Nat} (hg : g k = some (.cells c e fr)) {b r : Nat} (hE : E k = some (b, r)) :
    ∃ cs fr', w.heap[b]? = some (.cells cs e fr') ∧ c.size ≤ cs.size ∧ (fr = (0, 0) → fr' = (0, 0) ∧ c.size + r * P.cellsOf e = cs.size) ∧ ∀ a v : Value, ∀ j : Nat, c[j]? = some a → cs[j]? = some v → VR E a v := by
  obtain ⟨b', r', co, h1, h2, h3⟩ := h.tie k _ hg
  rw [h1] at hE; cases hE
  cases h3 with
  | cells hs hv => exact ⟨_, _, h2, by omega, fun _ => ⟨rfl, hs⟩, hv⟩
  | seen hs hv => exact ⟨_, _, h2, by omega, fun h => absurd h (by decide), hv⟩

theorem info_of_underlying {t : TypeId} {d : TypeDesc} (h : P.underlying t = some d) : ∃ i, P.info? t = some i := by
  unfold Program.underlying at h
  cases hi : P.info? t with
  | none => rw [hi] at h; cases h
  | some i => exact ⟨i, rfl⟩
theorem cellsOf_eq {t : TypeId} {i : TypeInfo} (h : P.info? t = some i) : P.cellsOf t = i.size := by simp [Program.cellsOf, h]

/-- Whether a type's values take a row of cells. -/
def aggT (P : Program) (t : TypeId) : Option Bool := match P.underlying t with
  | some (.struct _) => some true
  | some (.array _ _) => some true
  | some _ => some false
  | none => none
theorem aggT_run {t : TypeId} {b : Bool} (h : aggT P t = some b) (w : World) : (isAgg t).run P w = .ok b w := by
  unfold aggT at h
  split at h <;> first | (cases h; done) | skip
  all_goals
    rename_i hu
    cases h
    simp [isAgg, run_underlying hu]
theorem aggT_info {t : TypeId} {b : Bool} (h : aggT P t = some b) : ∃ i, P.info? t = some i := by
  unfold aggT at h
  split at h
  · rename_i hu; exact info_of_underlying hu
  · rename_i hu; exact info_of_underlying hu
  · rename_i hu; exact info_of_underlying hu
  · cases h

/-! ### Loads -/
def loadAt (P : Program) (t : TypeId) (k o : Nat) : M I Value := do
  match ← rd k with
  | .cells c _ _ =>
    match aggT P t with
    | some true => bif Nat.ble (o + P.cellsOf t) c.size then pure (.agg ((c.toList.drop o).take (P.cellsOf t)).toArray) else fail
    | some false => match c[o]? with
      | some v => pure v
      | none => fail
    | none => fail
  | _ => fail
def loadA (P : Program) (t : TypeId) : Value → M I Value
  | .pointer (some ⟨k, o, none⟩) => loadAt P t k o
  | _ => fail

theorem add_lit0 (b o j : Nat) : (⟨b, o, none⟩ : Addr).add j = ⟨b, o + j, none⟩ := by unfold Addr.add; split <;> simp_all
theorem cell_of {w : World} {b : Nat} {cs : Array Value} {e : TypeId} {fr : Nat × Nat} (h : w.heap[b]? = some (.cells cs e fr)) (o : Nat) : w.cell? ⟨b, o, none⟩ = cs[o]? := by
  simp [World.cell?, h]

theorem seg_getElem? (c : Array Value) (o n j : Nat) : ((c.toList.drop o).take n)[j]? = if j < n then c[o + j]? else none := by
  rw [List.getElem?_take]
  split
  · simp
  · rfl

theorem sim_loadAt {t : TypeId} {k o b r : Nat} (hk : E k = some (b, r)) : Sim P lo w0 E H (loadAt P t k o : M I Value) (loadVar t ⟨b, o, none⟩) VR := by
  unfold loadAt
  refine Sim.rd fun ob => ?_
  cases ob with
  | cells c e fr =>
    cases ha : aggT P t with
    | none => exact Sim.fail
    | some bb =>
      obtain ⟨i, hi⟩ := aggT_info ha
      cases bb with
      | true =>
        cases hb : Nat.ble (o + P.cellsOf t) c.size with
        | false => simp only [hb]; exact Sim.fail
        | true =>
          simp only [hb]
          refine Sim.leaf fun E1 g w hE hR ⟨_, hg⟩ => ?_
          obtain ⟨cs, fr', h1, h2, _, h3⟩ := hR.cells hg (hE _ _ hk)
          have hle := Nat.le_of_ble_eq_true hb
          have hlen : ((cs.toList.drop o).take (P.cellsOf t)).length = P.cellsOf t := by simp; omega
          have hl := run_loadCells_list (P := P) w ⟨b, o, none⟩ ((cs.toList.drop o).take (P.cellsOf t)) (fun j v hj => by
            rw [seg_getElem?] at hj
            split at hj
            · rw [add_lit0, cell_of h1]; exact hj
            · cases hj)
          rw [hlen] at hl
          refine ⟨.agg ((cs.toList.drop o).take (P.cellsOf t)).toArray, ?_, ?_⟩
          · have hsz : (sizeOf t).run P w = .ok (P.cellsOf t) w := run_sizeOf w hi
            simp [loadVar, aggT_run ha, hsz, hl]
          · refine .agg (by simp; omega) fun a v j hj hv => ?_
            simp only [List.getElem?_toArray, seg_getElem?] at hj hv
            split at hj
            · rw [if_pos (by assumption)] at hv; exact h3 a v _ hj hv
            · cases hj
      | false =>
        cases hc : c[o]? with
        | none => simp only [hc]; exact Sim.fail
        | some v =>
          simp only [hc]
          refine Sim.leaf fun E1 g w hE hR ⟨_, hg⟩ => ?_
          obtain ⟨cs, fr', h1, h2, _, h3⟩ := hR.cells hg (hE _ _ hk)
          have ho : o < cs.size := by have := (Array.getElem?_eq_some_iff.1 hc).1; omega
          refine ⟨cs[o], ?_, h3 v _ o hc (by simp [ho])⟩
          simp [loadVar, aggT_run ha, cell_of h1, ho]
  | _ => exact Sim.fail

theorem sim_loadA {t : TypeId} {v v' : Value} (h : VR E v v') : Sim P lo w0 E H (loadA P t v : M I Value) (Instr.loadAt t v') VR := by
  unfold loadA
  split
  · cases h with
    | ptr hk => exact Sim.left (b := _) (fun w => rfl) (sim_loadAt hk)
  · exact Sim.fail

/-! ### Stores -/
theorem VR.cells {v v' : Value} (h : VR E v v') : ARl E v.cells v'.cells := by
  have one : ∀ {x x' : Value}, VR E x x' → ARl E #[x] #[x'] := fun {x x'} hx => ⟨rfl, fun a c j ha hc => by
    rcases j with _ | j
    · simp at ha hc; subst ha; subst hc; exact hx
    · simp at ha⟩
  cases h with
  | agg h1 h2 => exact ⟨h1, h2⟩
  | bool b => exact one (.bool b)
  | int k n => exact one (.int k n)
  | float k n => exact one (.float k n)
  | cplx k n m => exact one (.cplx k n m)
  | string s => exact one (.string s)
  | nilp => exact one .nilp
  | ptr h => exact one (.ptr h)
  | nils n c => exact one (.nils n c)
  | slice n c h => exact one (.slice n c h)
  | wide n c h => exact one (.wide n c h)
  | nilm => exact one .nilm
  | map h => exact one (.map h)
  | func h1 h2 h3 h4 => exact one (.func h1 h2 h3 h4)
  | yield h => exact one (.yield h)
  | nilf => exact one .nilf
  | iface t h => exact one (.iface t h)
  | nili => exact one .nili
  | tuple h1 h2 => exact one (.tuple h1 h2)
theorem VR.one {v v' : Value} (h : VR E v v') : v'.oneCell' = v.oneCell' := by cases h <;> rfl

def splice (c : Array Value) (o : Nat) (vs : List Value) : Array Value := (c.toList.take o ++ vs ++ c.toList.drop (o + vs.length)).toArray

theorem splice_getElem? (c : Array Value) (o : Nat) (vs : List Value) (h : o + vs.length ≤ c.size) (j : Nat) : (splice c o vs)[j]? = if j < o then c[j]? else if j < o + vs.length then vs[j - o]? else c[j]? := by
  have h1 : (c.toList.take o).length = o := by simp; omega
  unfold splice
  simp only [List.getElem?_toArray, List.append_assoc]
  by_cases h2 : j < o
  · rw [List.getElem?_append_left (by omega), List.getElem?_take, if_pos h2, if_pos h2]; simp
  · rw [List.getElem?_append_right (by omega), h1, if_neg h2]
    by_cases h3 : j < o + vs.length
    · rw [List.getElem?_append_left (by omega), if_pos h3]
    · rw [List.getElem?_append_right (by omega), if_neg h3, List.getElem?_drop]
      rw [show o + vs.length + (j - o - vs.length) = j by omega]; simp
theorem splice_size (c : Array Value) (o : Nat) (vs : List Value) (h : o + vs.length ≤ c.size) : (splice c o vs).size = c.size := by
  unfold splice; simp; omega

theorem splice_rel {c cs : Array Value} {o : Nat} {vs vs' : List Value} (h : o + vs.length ≤ c.size) (hc : c.size ≤ cs.size) (hl : vs.length = vs'.length)
    (h1 : ∀ a v : Value, ∀ j : Nat, c[j]? = some a → cs[j]? = some v → VR E a v) (h2 : ∀ a v : Value, ∀ j : Nat, vs[j]? = some a → vs'[j]? = some v → VR E a v) :
    ∀ a v : Value, ∀ j : Nat, (splice c o vs)[j]? = some a → (splice cs o vs')[j]? = some v → VR E a v := by
  intro a v j ha hv
  rw [splice_getElem? c o vs h] at ha
  rw [splice_getElem? cs o vs' (by omega)] at hv
  by_cases e : j < o
  · rw [if_pos e] at ha hv; exact h1 a v j ha hv
  · rw [if_neg e] at ha hv
    by_cases e2 : j < o + vs.length
    · rw [if_pos e2] at ha; rw [if_pos (by omega)] at hv; exact h2 a v _ ha hv
    · rw [if_neg e2] at ha; rw [if_neg (by omega)] at hv; exact h1 a v j ha hv

theorem turned_setRow {w : World} {b : Nat} {old cs : Array Value} {t : TypeId} {fr : Nat × Nat} (h : w.heap[b]? = some (.cells old t fr)) : Turned b (.cells cs t fr) w (w.setRow b cs) :=
  ⟨rfl, rfl, rfl, by simp, setRow_heap w b old cs t fr h, fun i hi => setRow_other w b i cs hi⟩

/-- Stores a row of cells. -/
def putA (lo : Lim) (k o : Nat) (vs : List Value) : M I Unit := do
  match ← rd k with
  | .cells c e (0, 0) => bif Nat.ble (o + vs.length) c.size && vs.all Value.oneCell' then wr lo k (some (.cells (splice c o vs) e (0, 0))) >>= fun _ => pure () else fail
  | _ => fail

theorem sim_putA {k o b r : Nat} {vs vs' : List Value} (hk : E k = some (b, r)) (hl : vs.length = vs'.length) (hv : ∀ a v : Value, ∀ j : Nat, vs[j]? = some a → vs'[j]? = some v → VR E a v) :
    Sim P lo w0 E H (putA lo k o vs : M I Unit) (storeCells ⟨b, o, none⟩ vs') (fun _ _ _ => True) := by
  unfold putA
  refine Sim.rd fun ob => ?_
  split
  · rename_i c e
    cases hb : (Nat.ble (o + vs.length) c.size && vs.all Value.oneCell') with
    | false => exact Sim.fail
    | true =>
      simp only [Bool.and_eq_true] at hb
      have hle := Nat.le_of_ble_eq_true hb.1
      refine Sim.wr fun E1 g w hE hR ⟨_, hg⟩ o0 hg0 hlo => ?_
      obtain ⟨cs, fr', h1, h2, h4, h3⟩ := hR.cells hg (hE _ _ hk)
      obtain ⟨rfl, h5⟩ := h4 rfl
      have hone : ∀ v ∈ vs', v.oneCell' = true := fun v hv' => by
        obtain ⟨j, hj, rfl⟩ := List.getElem_of_mem hv'
        have hj' : j < vs.length := by omega
        have := (hv vs[j] vs'[j] j (by simp [hj']) (by simp [hj])).one
        rw [this]
        exact List.all_eq_true.1 hb.2 _ (List.getElem_mem _)
      have hst := run_storeCells_at P b o e vs' 0 cs w h1 (by omega) hone
      refine ⟨(), _, b, r, .cells (splice cs o vs') e (0, 0), hst, hE _ _ hk, turned_setRow h1, .cells ?_ ?_, trivial⟩
      · rw [splice_size _ _ _ (by omega), splice_size _ _ _ (by omega)]; exact h5
      · exact splice_rel hle h2 hl h3 fun a v j ha hv' => (hv a v j ha hv').mono hE
  · exact Sim.fail

def storeA (P : Program) (lo : Lim) (t : TypeId) (p v : Value) : M I Unit := match p with
  | .pointer (some ⟨k, o, none⟩) => match P.info? t with
    | some i => bif Nat.beq v.cells.size i.size then putA lo k o v.cells.toList else fail
    | none => fail
  | _ => fail
theorem sim_storeA {t : TypeId} {p p' v v' : Value} (hp : VR E p p') (hv : VR E v v') : Sim P lo w0 E H (storeA P lo t p v : M I Unit) (Instr.storeAt t p' v') (fun _ _ _ => True) := by
  unfold storeA
  split
  · cases hp with
    | ptr hk =>
      cases hi : P.info? t with
      | none => exact Sim.fail
      | some i =>
        cases hb : Nat.beq v.cells.size i.size with
        | false => simp only [hb]; exact Sim.fail
        | true =>
          simp only [hb]
          have hsz := Nat.eq_of_beq_eq_true hb
          have hc := hv.cells
          refine Sim.eqrun (c := storeCells _ v'.cells.toList) (fun w => ?_) (sim_putA hk (by simpa using hc.1) fun a u j ha hu => hc.2 a u j (by simpa using ha) (by simpa using hu))
          have : ¬ (v'.cells.size ≠ i.size) := by rw [← hc.1, hsz]; simp
          simp [Instr.storeAt, Instr.sureAddr, storeVar, sizeOf, typeInfo, hi, this]
  · exact Sim.fail

/-! ### New variables -/
theorem alloc_heap (w : World) (o : Obj) : (w.alloc o).heap[w.heap.size]? = some o := heap_alloc_new w o
theorem Rel.alloc {g : Nat → Option Obj} {w : World} (h : Rel P lo w0 E g w) (o : Obj) : Below w0.w.heap.size w0.w (w.alloc o) := h.below.alloc h.below.size o

def newA (e : TypeId) (cs : Array Value) : M I Value := new (.cells cs e (0, 0)) >>= fun k => pure (.pointer (some ⟨k, 0, none⟩))
theorem sim_newA {e : TypeId} {cs cs' : Array Value} (h : ARl E cs cs') {c : Sem Value} (hc : ∀ w, c.run P w = .ok (.pointer (some ⟨w.heap.size, 0, none⟩)) (w.alloc (.cells cs' e (0, 0)))) : Sim P lo w0 E H (newA e cs : M I Value) c VR :=
  Sim.new fun E1 g w k hE hR _ hk => ⟨_, _, 0, _, hc w, hR.alloc _, alloc_heap w _, fun i hi => Below.heap_alloc w _ i hi,
    .cells (by rw [Nat.zero_mul]; exact h.1) (fun a v j ha hv => ((h.2 a v j ha hv).mono hE).mono (Env.put_keep hk)), .ptr (r := 0) (by simp [Env.put])⟩

def zeroOf (P : Program) (t : TypeId) : Option Value := match P.info? t with
  | some i => match i.zero with
    | some z => bif gnd 3 z then some z else none
    | none => none
  | none => none
theorem zeroOf_run {t : TypeId} {z : Value} (h : zeroOf P t = some z) (w : World) : (zeroValue t).run P w = .ok z w ∧ gnd 3 z = true := by
  unfold zeroOf at h
  split at h
  · rename_i i hi
    split at h
    · rename_i z' hz
      cases hg : gnd 3 z' with
      | false => simp [hg] at h
      | true =>
        simp [hg] at h; subst h
        exact ⟨by simp [zeroValue, typeInfo, hi, hz], hg⟩
    · cases h
  · cases h

def allocA (P : Program) (t : TypeId) : M I Value := match zeroOf P t with
  | some z => newA t z.cells
  | none => fail
theorem sim_allocA {t : TypeId} : Sim P lo w0 E H (allocA P t : M I Value) (Instr.alloc t true (.tuple #[])) VR := by
  unfold allocA
  split
  · rename_i z hz
    refine sim_newA (gnd_refl E 3 z (zeroOf_run hz default).2).cells fun w => ?_
    simp [Instr.alloc, (zeroOf_run hz w).1, newVar, newRow]
  · exact Sim.fail
def boxA (t : TypeId) (v : Value) : M I Value := newA t v.cells
theorem sim_boxA {t : TypeId} {v v' : Value} (h : VR E v v') : Sim P lo w0 E H (boxA t v : M I Value) (Instr.box t v') VR :=
  sim_newA h.cells fun w => by simp [Instr.box, newVar, newRow]
end Go.Am

/- The abstract evaluator: structs, arrays, slices, interfaces. Conditions: none. -/
namespace Go.Am
open Go Go.RowKit
set_option linter.unusedVariables false
set_option linter.unusedSimpArgs false
variable {μ : Type} {I : MemI μ} {P : Program} {lo : Lim} {w0 : Bs} {E : Env} {H : (Nat → Option Obj) → Prop}

/-- An answer that is worked out from the operands alone. -/
theorem Sim.val {v : Value} {c : Sem Value} (h : ∃ v', (∀ w, c.run P w = .ok v' w) ∧ VR E v v') : Sim P lo w0 E H (Pure.pure v : M I Value) c VR := by
  obtain ⟨v', h1, h2⟩ := h
  exact Sim.leaf fun E1 g w hE _ _ => ⟨v', h1 w, h2.mono hE⟩

/-! ### Interfaces -/
def mkIface (P : Program) (t : TypeId) (x : Value) : M I Value := match P.underlying t with
  | some (.interface _) => fail
  | some _ => pure (.iface t x)
  | none => fail
theorem sim_mkIface {t : TypeId} {x x' : Value} (h : VR E x x') : Sim P lo w0 E H (mkIface P t x : M I Value) (Instr.makeInterface t x') VR := by
  unfold mkIface
  split
  · exact Sim.fail
  · rename_i d hn hd
    refine Sim.val ⟨.iface t x', fun w => run_makeInterface w t x' ?_, .iface t h⟩
    unfold Program.concrete
    rw [hd]
    cases d <;> first | rfl | exact absurd rfl (hn _)
  · exact Sim.fail

def assertA (P : Program) (x : Value) (t : TypeId) (ok : Bool) : M I Value := match P.underlying t with
  | some (.interface _) => fail
  | none => fail
  | some _ => match x with
    | .iface t' v => bif Nat.beq t' t then pure (bif ok then .tuple #[v, .bool true] else v) else
      bif ok then match zeroOf P t with
        | some z => pure (.tuple #[z, .bool false])
        | none => fail
      else fail
    | .nilIface => bif ok then match zeroOf P t with
        | some z => pure (.tuple #[z, .bool false])
        | none => fail
      else fail
    | _ => fail
theorem VR.pair {a a' b b' : Value} (h : VR E a a') (k : VR E b b') : VR E (.tuple #[a, b]) (.tuple #[a', b']) :=
  .tuple rfl fun x y j hx hy => by
    rcases j with _ | _ | j
    · simp at hx hy; subst hx; subst hy; exact h
    · simp at hx hy; subst hx; subst hy; exact k
    · simp at hx
theorem run_assert_hit {t : TypeId} {d : TypeDesc} (hd : P.underlying t = some d) (hn : ∀ ms, d ≠ .interface ms) (v : Value) (xT : TypeId) (ok : Bool) (w : World) :
    (Instr.typeAssert (.iface t v) xT t ok).run P w = .ok (if ok then .tuple #[v, .bool true] else v) w := by
  cases d <;> first | exact absurd rfl (hn _) | (simp [Instr.typeAssert, run_underlying hd])
theorem run_assert_miss {t t' : TypeId} {d : TypeDesc} (hd : P.underlying t = some d) (hn : ∀ ms, d ≠ .interface ms) (ht : t' ≠ t) (v z : Value) (xT : TypeId) (w : World) (hz : (zeroValue t).run P w = .ok z w) :
    (Instr.typeAssert (.iface t' v) xT t true).run P w = .ok (.tuple #[z, .bool false]) w := by
  cases d <;> first | exact absurd rfl (hn _) | (simp [Instr.typeAssert, run_underlying hd, ht, hz])
theorem run_assert_nil {t : TypeId} {d : TypeDesc} (hd : P.underlying t = some d) (hn : ∀ ms, d ≠ .interface ms) (z : Value) (xT : TypeId) (w : World) (hz : (zeroValue t).run P w = .ok z w) :
    (Instr.typeAssert .nilIface xT t true).run P w = .ok (.tuple #[z, .bool false]) w := by
  cases d <;> first | exact absurd rfl (hn _) | (simp [Instr.typeAssert, run_underlying hd, hz])
theorem sim_assertA {x x' : Value} {xT t : TypeId} {ok : Bool} (h : VR E x x') : Sim P lo w0 E H (assertA P x t ok : M I Value) (Instr.typeAssert x' xT t ok) VR := by
  unfold assertA
  split
  · exact Sim.fail
  · exact Sim.fail
  · rename_i d hn hd
    cases h with
    | iface t' hv =>
      cases hb : Nat.beq t' t with
      | true =>
        simp only [hb, cond_true]
        have := Nat.eq_of_beq_eq_true hb
        subst this
        cases ok with
        | true => exact Sim.val ⟨_, fun w => (run_assert_hit hd hn _ _ true w).trans (by rw [if_pos rfl]), VR.pair hv (.bool true)⟩
        | false => exact Sim.val ⟨_, fun w => (run_assert_hit hd hn _ _ false w).trans (by rw [if_neg (by decide)]), hv⟩
      | false =>
        simp only [hb, cond_false]
        have hne : t' ≠ t := fun e => by subst e; simp at hb
        cases ok with
        | true =>
          simp only [cond_true]
          split
          · rename_i z hz
            exact Sim.val ⟨_, fun w => run_assert_miss hd hn hne _ _ _ w (zeroOf_run hz w).1, VR.pair (gnd_refl E 3 z (zeroOf_run hz default).2) (.bool false)⟩
          · exact Sim.fail
        | false => exact Sim.fail
    | nili =>
      cases ok with
      | true =>
        simp only [cond_true]
        split
        · rename_i z hz
          exact Sim.val ⟨_, fun w => run_assert_nil hd hn _ _ w (zeroOf_run hz w).1, VR.pair (gnd_refl E 3 z (zeroOf_run hz default).2) (.bool false)⟩
        · exact Sim.fail
      | false => exact Sim.fail
    | _ => exact Sim.fail

/-! ### Parts of aggregates -/
def partA (P : Program) (t : TypeId) (cs : Array Value) (off : Nat) : M I Value := match aggT P t with
  | some true => bif Nat.ble (off + P.cellsOf t) cs.size then pure (.agg ((cs.toList.drop off).take (P.cellsOf t)).toArray) else fail
  | some false => match cs[off]? with
    | some v => pure v
    | none => fail
  | none => fail
theorem extract_eq (cs : Array Value) (off n : Nat) : cs.extract off (off + n) = ((cs.toList.drop off).take n).toArray := by
  apply Array.toList_inj.1
  simp [List.take_drop, Nat.add_comm]
theorem sim_partA {t : TypeId} {cs cs' : Array Value} {off : Nat} (h : ARl E cs cs') : Sim P lo w0 E H (partA P t cs off : M I Value) (part t cs' off) VR := by
  unfold partA
  cases ha : aggT P t with
  | none => exact Sim.fail
  | some b =>
    obtain ⟨i, hi⟩ := aggT_info ha
    cases b with
    | true =>
      cases hb : Nat.ble (off + P.cellsOf t) cs.size with
      | false => simp only [hb]; exact Sim.fail
      | true =>
        simp only [hb]
        have hle := Nat.le_of_ble_eq_true hb
        refine Sim.val ⟨.agg ((cs'.toList.drop off).take (P.cellsOf t)).toArray, fun w => ?_, .agg ?_ fun a v j hj hv => ?_⟩
        · have hsz : (sizeOf t).run P w = .ok (P.cellsOf t) w := run_sizeOf w hi
          simp only [part, Sem.run_bind, aggT_run ha, Result.andThen_ok, if_true, hsz, Sem.run_pure, extract_eq]
        · simp; have := h.1; omega
        · simp only [List.getElem?_toArray, seg_getElem?] at hj hv
          split at hj
          · rw [if_pos (by assumption)] at hv; exact h.2 a v _ hj hv
          · cases hj
    | false =>
      cases hc : cs[off]? with
      | none => simp only [hc]; exact Sim.fail
      | some v =>
        simp only [hc]
        have ho : off < cs'.size := by have := (Array.getElem?_eq_some_iff.1 hc).1; have := h.1; omega
        refine Sim.val ⟨cs'[off], fun w => ?_, h.2 v _ off hc (by simp [ho])⟩
        simp [part, aggT_run ha, ho]

def fieldA (P : Program) (t : TypeId) (x : Value) (f : Nat) : M I Value := match P.underlying t with
  | some (.struct fs) => match fs[f]? with
    | some fd => match x with
      | .agg cs => partA P fd.type cs fd.offset
      | _ => fail
    | none => fail
  | _ => fail
theorem sim_fieldA {t : TypeId} {x x' : Value} {f : Nat} (h : VR E x x') : Sim P lo w0 E H (fieldA P t x f : M I Value) (Instr.field t x' f) VR := by
  unfold fieldA
  split
  · rename_i fs hu
    split
    · rename_i fd hf
      cases h with
      | agg h1 h2 =>
        refine Sim.eqrun (c := part fd.type _ fd.offset) (fun w => ?_) (sim_partA ⟨h1, h2⟩)
        simp [Instr.field, run_underlying hu, hf, asAgg]
      | _ => exact Sim.fail
    · exact Sim.fail
  · exact Sim.fail

def indexA (P : Program) (t : TypeId) (x i : Value) : M I Value := match P.underlying t, x, i with
  | some (.array n e), .agg cs, .int _ j => match P.info? e with
    | some ie => bif decide (0 ≤ j) && decide (j < n) then partA P e cs (j.toNat * ie.size) else fail
    | none => fail
  | _, _, _ => fail
theorem sim_indexA {t : TypeId} {x x' i i' : Value} (h : VR E x x') (hi : VR E i i') : Sim P lo w0 E H (indexA P t x i : M I Value) (Instr.index t x' i') VR := by
  unfold indexA
  split
  · rename_i n e cs k j hu
    cases hi
    cases h with
    | agg h1 h2 =>
      split
      · rename_i ie hie
        cases hb : (decide (0 ≤ j) && decide (j < n)) with
        | false => exact Sim.fail
        | true =>
          simp only [Bool.and_eq_true, decide_eq_true_eq] at hb
          refine Sim.eqrun (c := part e _ (j.toNat * ie.size)) (fun w => ?_) (sim_partA ⟨h1, h2⟩)
          simp [Instr.index, asIntOf, run_underlying hu, hb, sizeOf, typeInfo, hie]
      · exact Sim.fail
  · exact Sim.fail

/-! ### Addresses -/
def fieldAddrA (P : Program) (t : TypeId) (x : Value) (f : Nat) : M I Value := match P.underlying t, x with
  | some (.struct fs), .pointer (some ⟨k, o, none⟩) => match fs[f]? with
    | some fd => match P.info? fd.type with
      | some i => bif Nat.beq i.size 0 then fail else pure (.pointer (some ⟨k, o + fd.offset, none⟩))
      | none => fail
    | none => fail
  | _, _ => fail
theorem sim_fieldAddrA {t : TypeId} {x x' : Value} {f : Nat} (h : VR E x x') : Sim P lo w0 E H (fieldAddrA P t x f : M I Value) (Instr.fieldAt t x' f) VR := by
  unfold fieldAddrA
  split
  · rename_i fs k o hu
    cases h with
    | ptr hk =>
      split
      · rename_i fd hf
        split
        · rename_i i hi
          cases hb : Nat.beq i.size 0 with
          | true => exact Sim.fail
          | false =>
            have hne : i.size ≠ 0 := fun e => by simp [e] at hb
            refine Sim.val ⟨_, fun w => ?_, .ptr hk⟩
            simp only [Instr.fieldAt, Sem.run_bind, run_underlying hu, Result.andThen_ok, hf, Instr.sureAddr, Sem.run_pure, fieldPlace, sizeOf, typeInfo, run_program, hi, hne, if_false, add_lit0]
        · exact Sim.fail
      · exact Sim.fail
  · exact Sim.fail

def indexAddrA (P : Program) (t : TypeId) (x i : Value) : M I Value := match P.underlying t, x, i with
  | some (.slice e), .slice (some ⟨k, o, _⟩) n _, .int _ j => match P.info? e with
    | some ie => bif decide (0 ≤ j) && decide (j < n) then pure (.pointer (some ⟨k, o + j.toNat * ie.size, none⟩)) else fail
    | none => fail
  | some (.array n e), .pointer (some ⟨k, o, none⟩), .int _ j => match P.info? e with
    | some ie => bif decide (0 ≤ j) && decide (j < n) then pure (.pointer (some ⟨k, o + j.toNat * ie.size, none⟩)) else fail
    | none => fail
  | _, _, _ => fail
theorem sim_indexAddrA {t : TypeId} {x x' i i' : Value} (h : VR E x x') (hi : VR E i i') : Sim P lo w0 E H (indexAddrA P t x i : M I Value) (Instr.indexAt t x' i') VR := by
  unfold indexAddrA
  split
  · rename_i e k o sp n c kk j hu
    cases hi
    split
    · rename_i ie hie
      cases hb : (decide (0 ≤ j) && decide (j < n)) with
      | false => exact Sim.fail
      | true =>
        simp only [Bool.and_eq_true, decide_eq_true_eq] at hb
        cases h with
        | slice _ _ hk =>
          refine Sim.val ⟨_, fun w => ?_, .ptr hk⟩
          simp only [Instr.indexAt, Sem.run_bind, run_underlying hu, Result.andThen_ok, asIntOf, Sem.run_pure, hb, and_self, if_true, sizeOf, typeInfo, run_program, hie, add_lit0]
        | wide _ _ hk =>
          refine Sim.val ⟨_, fun w => ?_, .ptr hk⟩
          simp only [Instr.indexAt, Sem.run_bind, run_underlying hu, Result.andThen_ok, asIntOf, Sem.run_pure, hb, and_self, if_true, sizeOf, typeInfo, run_program, hie, add_lit0]
    · exact Sim.fail
  · rename_i n e k o kk j hu
    cases hi
    split
    · rename_i ie hie
      cases hb : (decide (0 ≤ j) && decide (j < n)) with
      | false => exact Sim.fail
      | true =>
        simp only [Bool.and_eq_true, decide_eq_true_eq] at hb
        cases h with
        | ptr hk =>
          refine Sim.val ⟨_, fun w => ?_, .ptr hk⟩
          simp only [Instr.indexAt, Sem.run_bind, run_underlying hu, Result.andThen_ok, asIntOf, Sem.run_pure, Instr.sureAddr, hb, and_self, if_true, sizeOf, typeInfo, run_program, hie, add_lit0]
    · exact Sim.fail
  · exact Sim.fail

/-! ### Slicing -/
def boundA (x : Option Value) (y d : Nat) : Option Nat := match x with
  | none => some d
  | some (.int _ i) => bif decide (0 ≤ i) && decide (i ≤ y) then some i.toNat else none
  | some _ => none
/-- low, high, max. -/
def boundsA (len cap : Nat) (l h m : Option Value) : Option (Nat × Nat × Nat) := match boundA m cap cap with
  | some mm => match boundA h mm len with
    | some hh => match boundA l hh 0 with
      | some ll => match m, h with
        | some _, none => none
        | _, _ => some (ll, hh, mm)
      | none => none
    | none => none
  | none => none
def OVR (E : Env) : Option Value → Option Value → Prop
  | none, none => True
  | some v, some v' => VR E v v'
  | _, _ => False
theorem boundA_run {v v' : Value} {y d n : Nat} (h : boundA (some v) y d = some n) (hv : VR E v v') (y' : Nat) (hy : y ≤ y') (code : BoundsCode) (w : World) : (Instr.sliceBound v' y' code).run P w = .ok n w := by
  cases hv <;> simp only [boundA] at h <;> first | (cases h; done) | skip
  rename_i k i
  cases hb : (decide (0 ≤ i) && decide (i ≤ y)) with
  | false => simp [hb] at h
  | true =>
    simp only [hb, cond_true, Option.some.injEq] at h
    simp only [Bool.and_eq_true, decide_eq_true_eq] at hb
    subst h
    have h1 : i ≤ y' := by omega
    simp [Instr.sliceBound, asIntOf, hb.1, h1]
theorem boundsA_run {len cap cap' : Nat} {l h m l' h' m' : Option Value} {a b c : Nat} (hb : boundsA len cap l h m = some (a, b, c)) (hl : OVR E l l') (hh : OVR E h h') (hm : OVR E m m') (hc : cap ≤ cap') (hx : m = none ∨ cap = cap') (is : Bool) (w : World) :
    (Instr.sliceBounds is len cap' l' h' m').run P w = .ok (a, b, if m.isSome then c else cap') w := by
  unfold boundsA at hb
  cases h1 : boundA m cap cap with
  | none => rw [h1] at hb; cases hb
  | some mm =>
    rw [h1] at hb
    simp only at hb
    cases h2 : boundA h mm len with
    | none => rw [h2] at hb; cases hb
    | some hh2 =>
      rw [h2] at hb
      simp only at hb
      cases h3 : boundA l hh2 0 with
      | none => rw [h3] at hb; cases hb
      | some ll =>
        rw [h3] at hb
        cases m with
        | some mv =>
          cases m' with
          | none => exact hm.elim
          | some mv' =>
            cases h with
            | none => cases hb
            | some hv =>
              cases h' with
              | none => exact hh.elim
              | some hv' =>
                simp only [Option.some.injEq, Prod.mk.injEq] at hb
                obtain ⟨rfl, rfl, rfl⟩ := hb
                obtain rfl := hx.resolve_left (by simp)
                have r1 := fun code => boundA_run (P := P) h1 hm cap (Nat.le_refl _) code w
                have r2 := fun code => boundA_run (P := P) h2 hh mm (Nat.le_refl _) code w
                cases l with
                | none =>
                  cases l' with
                  | some _ => exact hl.elim
                  | none =>
                    simp only [boundA, Option.some.injEq] at h3
                    subst h3
                    simp [Instr.sliceBounds, r1, r2]
                | some lv =>
                  cases l' with
                  | none => exact hl.elim
                  | some lv' =>
                    have r3 := fun code => boundA_run (P := P) h3 hl hh2 (Nat.le_refl _) code w
                    simp [Instr.sliceBounds, r1, r2, r3]
        | none =>
          cases m' with
          | some _ => exact hm.elim
          | none =>
            simp only [boundA, Option.some.injEq] at h1
            subst h1
            cases h with
            | none =>
              cases h' with
              | some _ => exact hh.elim
              | none =>
                simp only [boundA, Option.some.injEq] at h2
                subst h2
                simp only [Option.some.injEq, Prod.mk.injEq] at hb
                obtain ⟨rfl, rfl, rfl⟩ := hb
                cases l with
                | none =>
                  cases l' with
                  | some _ => exact hl.elim
                  | none =>
                    simp only [boundA, Option.some.injEq] at h3
                    subst h3
                    simp [Instr.sliceBounds]
                | some lv =>
                  cases l' with
                  | none => exact hl.elim
                  | some lv' =>
                    have r3 := fun code => boundA_run (P := P) h3 hl len (Nat.le_refl _) code w
                    simp [Instr.sliceBounds, r3]
            | some hv =>
              cases h' with
              | none => exact hh.elim
              | some hv' =>
                simp only [Option.some.injEq, Prod.mk.injEq] at hb
                obtain ⟨rfl, rfl, rfl⟩ := hb
                have r2 := fun code => boundA_run (P := P) h2 hh cap' hc code w
                cases l with
                | none =>
                  cases l' with
                  | some _ => exact hl.elim
                  | none =>
                    simp only [boundA, Option.some.injEq] at h3
                    subst h3
                    simp [Instr.sliceBounds, r2]
                | some lv =>
                  cases l' with
                  | none => exact hl.elim
                  | some lv' =>
                    have r3 := fun code => boundA_run (P := P) h3 hl hh2 (Nat.le_refl _) code w
                    simp [Instr.sliceBounds, r2, r3]

def sliceA (P : Program) (t : TypeId) (x : Value) (l h m : Option Value) : M I Value := match P.underlying t, x with
  | some (.slice e), .slice a n cap => match boundsA n cap l h m, P.info? e with
    | some (ll, hh, mm), some ie => match a with
      | none => pure (.slice none (hh - ll) (mm - ll))
      | some ⟨k, o, none⟩ => pure (.slice (some ⟨k, bif Nat.beq mm ll then o else o + ll * ie.size, none⟩) (hh - ll) (mm - ll))
      | some ⟨k, o, some 0⟩ => match m with
        | none => bif Nat.blt ll cap then pure (.slice (some ⟨k, o + ll * ie.size, some 0⟩) (hh - ll) (cap - ll)) else fail
        | some _ => fail
      | some _ => fail
    | _, _ => fail
  | some (.array n e), .pointer (some ⟨k, o, none⟩) => match boundsA n n l h m, P.info? e with
    | some (ll, hh, mm), some ie => pure (.slice (some ⟨k, bif Nat.beq mm ll then o else o + ll * ie.size, none⟩) (hh - ll) (mm - ll))
    | _, _ => fail
  | _, _ => fail

theorem boundsA_max {len cap : Nat} {l h m : Option Value} {a b c : Nat} (hb : boundsA len cap l h m = some (a, b, c)) : m = none → c = cap := by
  intro hm
  subst hm
  unfold boundsA at hb
  simp only [boundA] at hb
  split at hb
  · split at hb
    · simp at hb; exact hb.2.2.symm
    · cases hb
  · cases hb
theorem beq_ite (a b : Nat) {α : Type} (x y : α) : (bif Nat.beq a b then x else y) = if a = b then x else y := by
  cases h : Nat.beq a b with
  | true => have := Nat.eq_of_beq_eq_true h; simp [this]
  | false => rw [if_neg (fun e => by subst e; simp at h)]; rfl

theorem sim_sliceA {t : TypeId} {x x' : Value} {l h m l' h' m' : Option Value} (hx : VR E x x') (hl : OVR E l l') (hh : OVR E h h') (hm : OVR E m m') :
    Sim P lo w0 E H (sliceA P t x l h m : M I Value) (Instr.sliceAt t x' l' h' m') VR := by
  unfold sliceA
  split
  · rename_i e a n cap hu
    have hsl : ∀ (y : Value) (w : World), (Instr.sliceAt t y l' h' m').run P w = (Instr.slice t y l' h' m').run P w := fun y w => by simp [Instr.sliceAt, run_underlying hu]
    split
    · rename_i ll hh2 mm ie hb hie
      have hmm : (if m.isSome then mm else cap) = mm := by
        cases m with
        | none => simp [boundsA_max hb rfl]
        | some v => rfl
      cases hx with
      | nils =>
        refine Sim.val ⟨.slice none (hh2 - ll) (mm - ll), fun w => ?_, .nils _ _⟩
        have hr := boundsA_run (P := P) hb hl hh hm (Nat.le_refl _) (.inr rfl) true w
        rw [hmm] at hr
        rw [hsl]
        simp [Instr.slice, run_underlying hu, hr, sizeOf, typeInfo, hie]
      | slice _ _ hk =>
        simp only [beq_ite]
        refine Sim.val ⟨_, fun w => ?_, .slice _ _ hk⟩
        have hr := boundsA_run (P := P) hb hl hh hm (Nat.le_refl _) (.inr rfl) true w
        rw [hmm] at hr
        rw [hsl]
        by_cases e1 : mm = ll
        · simp [Instr.slice, run_underlying hu, hr, sizeOf, typeInfo, hie, e1]
        · simp [Instr.slice, run_underlying hu, hr, sizeOf, typeInfo, hie, e1, add_lit0]
      | wide _ _ hk =>
        cases m with
        | some _ => exact Sim.fail
        | none =>
          cases hbl : Nat.blt ll cap with
          | false => simp only [hbl]; exact Sim.fail
          | true =>
            simp only [hbl]
            have hlt : ll < cap := by simp [Nat.blt] at hbl; omega
            rename_i k o b r
            refine Sim.val ⟨.slice (some ⟨b, o + ll * ie.size, none⟩) (hh2 - ll) (cap - ll + r), fun w => ?_, .wide _ _ hk⟩
            have hr := boundsA_run (P := P) (cap' := cap + r) hb hl hh hm (by omega) (.inl rfl) true w
            simp only [Option.isSome_none, Bool.false_eq_true, if_false] at hr
            rw [hsl]
            have hne : ¬ (cap + r = ll) := by omega
            have heq : cap + r - ll = cap - ll + r := by omega
            simp [Instr.slice, run_underlying hu, hr, sizeOf, typeInfo, hie, hne, add_lit0, heq]
    · exact Sim.fail
  · rename_i n e k o hu
    split
    · rename_i ll hh2 mm ie hb hie
      have hmm : (if m.isSome then mm else n) = mm := by
        cases m with
        | none => simp [boundsA_max hb rfl]
        | some v => rfl
      cases hx with
      | ptr hk =>
        simp only [beq_ite]
        refine Sim.val ⟨_, fun w => ?_, .slice _ _ hk⟩
        have hr := boundsA_run (P := P) hb hl hh hm (Nat.le_refl _) (.inr rfl) false w
        rw [hmm] at hr
        by_cases e1 : mm = ll
        · simp [Instr.sliceAt, Instr.sureAddr, run_underlying hu, hr, sizeOf, typeInfo, hie, e1]
        · simp [Instr.sliceAt, Instr.sureAddr, run_underlying hu, hr, sizeOf, typeInfo, hie, e1, add_lit0]
    · exact Sim.fail
  · exact Sim.fail
end Go.Am

/- The abstract evaluator: literals, make, append, copy. Conditions: none. -/
namespace Go.Am
open Go Go.RowKit
set_option linter.unusedVariables false
set_option linter.unusedSimpArgs false
variable {μ : Type} {I : MemI μ} {P : Program} {lo : Lim} {w0 : Bs} {E : Env} {H : (Nat → Option Obj) → Prop}

/-! ### Literals -/
theorem ARl.set {as cs : Array Value} (h : ARl E as cs) {a c : Value} (i : Nat) (hv : VR E a c) : ARl E (as.setIfInBounds i a) (cs.setIfInBounds i c) := by
  refine ⟨by simpa using h.1, fun x y j hx hy => ?_⟩
  rw [Array.getElem?_setIfInBounds] at hx hy
  by_cases e : i = j
  · subst e
    simp only [if_true] at hx hy
    split at hx <;> split at hy <;> first | (cases hx; done) | (cases hy; done) | (cases hx; cases hy; exact hv)
  · rw [if_neg e] at hx hy
    exact h.2 x y j hx hy
def PR (E : Env) : List (Nat × Value) → List (Nat × Value) → Prop
  | [], [] => True
  | a :: as, c :: cs => a.1 = c.1 ∧ VR E a.2 c.2 ∧ PR E as cs
  | _, _ => False
theorem fold_rel (off : Nat) : ∀ (l l' : List Value) (n : Nat) (as cs : Array Value), l.length = l'.length → (∀ a c : Value, ∀ j : Nat, l[j]? = some a → l'[j]? = some c → VR E a c) → ARl E as cs →
    ARl E ((l.zipIdx n).foldl (fun b x => b.setIfInBounds (off + x.2) x.1) as) ((l'.zipIdx n).foldl (fun b x => b.setIfInBounds (off + x.2) x.1) cs)
  | [], [], n, as, cs, _, _, h => h
  | a :: l, c :: l', n, as, cs, hl, hv, h => by
    simp only [List.zipIdx_cons, List.foldl_cons]
    exact fold_rel off l l' (n + 1) _ _ (by simpa using hl) (fun x y j hx hy => hv x y (j + 1) (by simpa using hx) (by simpa using hy)) (h.set _ (hv a c 0 rfl rfl))
  | [], _ :: _, _, _, _, hl, _, _ => by simp at hl
  | _ :: _, [], _, _, _, hl, _, _ => by simp at hl
theorem fill_rel (place : Nat → Option (Nat × Nat)) : ∀ (ps ps' : List (Nat × Value)) (as cs r : Array Value), PR E ps ps' → ARl E as cs → Instr.fill place as ps = some r → ∃ r', Instr.fill place cs ps' = some r' ∧ ARl E r r'
  | [], [], as, cs, r, _, h, hf => by simp [Instr.fill] at hf; subst hf; exact ⟨cs, rfl, h⟩
  | (i, v) :: ps, (i', v') :: ps', as, cs, r, hp, h, hf => by
    obtain ⟨h1, h2, h3⟩ := hp
    simp only at h1 h2
    subst h1
    have hc := h2.cells
    simp only [Instr.fill] at hf ⊢
    split at hf
    · cases hf
    · rename_i off size hpl
      rw [← hc.1, ← h.1]
      split at hf
      · cases hf
      · rename_i hne
        rw [if_neg hne]
        refine fill_rel place ps ps' _ _ r h3 ?_ hf
        have := fold_rel off v.cells.toList v'.cells.toList 0 as cs (by simpa using hc.1) (fun a c j ha hc' => hc.2 a c j (by simpa using ha) (by simpa using hc')) h
        have tr : ∀ (u : Array Value) (b : Array Value), u.zipIdx.foldl (fun cs (x : Value × Nat) => cs.setIfInBounds (off + x.2) x.1) b = (u.toList.zipIdx).foldl (fun b x => b.setIfInBounds (off + x.2) x.1) b := fun u b => by
          rw [← Array.foldl_toList, Array.toList_zipIdx]
        exact (tr v.cells as).symm ▸ (tr v'.cells cs).symm ▸ this
  | [], _ :: _, _, _, _, hp, _, _ => hp.elim
  | _ :: _, [], _, _, _, hp, _, _ => hp.elim

def zeroG (P : Program) (t : TypeId) : Bool := (zeroOf P t).isSome
theorem zeroG_spec {t : TypeId} {i : TypeInfo} {z : Value} (h : zeroG P t = true) (hi : P.info? t = some i) (hz : i.zero = some z) : gnd 3 z = true := by
  unfold zeroG zeroOf at h
  rw [hi] at h
  simp only [hz] at h
  cases hg : gnd 3 z with
  | true => rfl
  | false => simp [hg] at h

def buildA (P : Program) (t : TypeId) (parts : List (Nat × Value)) : M I Value := bif zeroG P t then match P.built t parts with
    | some cs => pure (.agg cs)
    | none => fail
  else fail
theorem built_rel {t : TypeId} {ps ps' : List (Nat × Value)} {r : Array Value} (hz0 : zeroG P t = true) (hp : PR E ps ps') (h : P.built t ps = some r) : ∃ r', P.built t ps' = some r' ∧ ARl E r r' := by
  unfold Program.built at h ⊢
  split at h
  · rename_i it n e hit hu
    split at h
    · rename_i z ie hz hie
      exact fill_rel _ ps ps' z.cells z.cells r hp (gnd_refl E 3 z (zeroG_spec hz0 hit hz)).cells h
    · cases h
  · rename_i it fs hit hu
    split at h
    · rename_i z pl hz hpl
      exact fill_rel _ ps ps' z.cells z.cells r hp (gnd_refl E 3 z (zeroG_spec hz0 hit hz)).cells h
    · cases h
  · cases h
theorem sim_buildA {t : TypeId} {ps : List (Nat × Value)} {ps' : Array (Nat × Value)} (hp : PR E ps ps'.toList) : Sim P lo w0 E H (buildA P t ps : M I Value) (Instr.build t ps') VR := by
  unfold buildA
  cases hz : zeroG P t with
  | false => exact Sim.fail
  | true =>
    simp only [cond_true]
    split
    · rename_i cs hb
      obtain ⟨r', h1, h2⟩ := built_rel hz hp hb
      exact Sim.val ⟨.agg r', fun w => run_build w t ps' r' h1, .agg h2.1 h2.2⟩
    · exact Sim.fail

/-- n cells of zeros. -/
def zerosL (z : List Value) : Nat → List Value
  | 0 => []
  | n + 1 => z ++ zerosL z n
theorem zerosL_length (z : List Value) (n : Nat) : (zerosL z n).length = n * z.length := by
  induction n with
  | zero => simp [zerosL]
  | succ n ih => simp [zerosL, ih, Nat.add_mul]; omega
theorem zerosL_getElem? (z : List Value) : ∀ (n j : Nat), j < n * z.length → (zerosL z n)[j]? = z[j % z.length]?
  | 0, j, h => by simp at h
  | n + 1, j, h => by
    simp only [zerosL]
    by_cases hj : j < z.length
    · rw [List.getElem?_append_left hj, Nat.mod_eq_of_lt hj]
    · rw [List.getElem?_append_right (by omega), zerosL_getElem? z n (j - z.length) (by rw [Nat.add_mul] at h; omega)]
      congr 1
      exact (Nat.mod_eq_sub_mod (by omega)).symm
theorem zerosL_made (z : Array Value) (n : Nat) : madeCells z (n * z.size) = (zerosL z.toList n).toArray := by
  apply Array.ext_getElem?
  intro j
  by_cases hj : j < n * z.size
  · have hz : 0 < z.size := by rcases Nat.eq_zero_or_pos z.size with h | h; (rw [h] at hj; simp at hj); exact h
    have hm := Nat.mod_lt j hz
    have h2 := zerosL_getElem? z.toList n j (by simpa using hj)
    simp only [Array.length_toList] at h2
    have h3 : (zerosL z.toList n).toArray[j]? = (zerosL z.toList n)[j]? := by simp
    rw [h3, h2]
    simp [madeCells, hj, hm]
  · rw [Array.getElem?_eq_none (by simp [madeCells]; omega), Array.getElem?_eq_none (by simp [zerosL_length]; omega)]

def buildSliceA (P : Program) (t : TypeId) (n : Nat) (ps : List (Nat × Value)) : M I Value := match P.underlying t with
  | some (.slice e) => match P.info? e, zeroOf P e with
    | some ie, some z => bif Nat.beq z.cells.size ie.size && Nat.ble (n * ie.size) 16777216 then
        match Instr.fill (fun i => some (i * ie.size, ie.size)) (zerosL z.cells.toList n).toArray ps with
        | some cs => new (.cells cs e (0, 0)) >>= fun k => pure (.slice (some ⟨k, 0, none⟩) n n)
        | none => fail
      else fail
    | _, _ => fail
  | _ => fail
theorem zerosL_rel {z : Value} {n : Nat} (hz : gnd 3 z = true) : ARl E (zerosL z.cells.toList n).toArray (zerosL z.cells.toList n).toArray := by
  refine ⟨rfl, fun a c j ha hc => ?_⟩
  rw [ha] at hc; cases hc
  have hj : j < n * z.cells.size := by
    have := (Array.getElem?_eq_some_iff.1 ha).1
    simpa [zerosL_length] using this
  rw [List.getElem?_toArray, zerosL_getElem? _ _ _ (by simpa using hj)] at ha
  exact (gnd_refl E 3 z hz).cells.2 a a _ (by simpa using ha) (by simpa using ha)
theorem sim_newSlice {e : TypeId} {cs cs' : Array Value} {n m : Nat} (h : ARl E cs cs') {c : Sem Value} (hc : ∀ w, c.run P w = .ok (.slice (some ⟨w.heap.size, 0, none⟩) n m) (w.alloc (.cells cs' e (0, 0)))) :
    Sim P lo w0 E H (new (.cells cs e (0, 0)) >>= fun k => (pure (.slice (some ⟨k, 0, none⟩) n m) : M I Value)) c VR :=
  Sim.new fun E1 g w k hE hR _ hk => ⟨_, _, 0, _, hc w, hR.alloc _, alloc_heap w _, fun i hi => Below.heap_alloc w _ i hi,
    .cells (by rw [Nat.zero_mul]; exact h.1) (fun a v j ha hv => ((h.2 a v j ha hv).mono hE).mono (Env.put_keep hk)), .slice (r := 0) _ _ (by simp [Env.put])⟩
theorem sim_buildSliceA {t : TypeId} {n : Nat} {ps : List (Nat × Value)} {ps' : Array (Nat × Value)} (hp : PR E ps ps'.toList) : Sim P lo w0 E H (buildSliceA P t n ps : M I Value) (Instr.buildSlice t n ps') VR := by
  unfold buildSliceA
  split
  · rename_i e hu
    split
    · rename_i ie z hie hz
      cases hb : (Nat.beq z.cells.size ie.size && Nat.ble (n * ie.size) 16777216) with
      | false => exact Sim.fail
      | true =>
        simp only [Bool.and_eq_true] at hb
        have h1 := Nat.eq_of_beq_eq_true hb.1
        have h2 := Nat.le_of_ble_eq_true hb.2
        simp only [cond_true]
        split
        · rename_i cs hf
          have hzr := zeroOf_run hz
          obtain ⟨r', hr', hA⟩ := fill_rel _ ps ps'.toList _ _ cs hp (zerosL_rel (n := n) (hzr default).2) hf
          refine sim_newSlice hA fun w => ?_
          have hle : ¬ (2 ^ 24 < n * ie.size) := by omega
          have hle' : ¬ (16777216 < n * ie.size) := by omega
          by_cases h0 : n * ie.size = 0
          · have : zerosL z.cells.toList n = [] := List.eq_nil_of_length_eq_zero (by rw [zerosL_length]; simpa [h1] using h0)
            rw [this] at hr'
            have e0 : ∀ f : Nat → Value, (Array.range 0).map f = #[] := fun f => by simp
            simp [Instr.buildSlice, run_underlying hu, sizeOf, typeInfo, hie, h0, newRow]
            rw [e0, hr']
            simp
          · have hm := zerosL_made z.cells n
            rw [h1] at hm
            rw [← hm] at hr'
            unfold madeCells at hr'
            simp [Instr.buildSlice, run_underlying hu, sizeOf, typeInfo, hie, h0, hle', (hzr w).1, newRow, hr']
        · exact Sim.fail
    · exact Sim.fail
  · exact Sim.fail

def makeSliceA (P : Program) (t : TypeId) (l c : Value) : M I Value := match P.underlying t, l, c with
  | some (.slice e), .int _ l, .int _ c => match P.info? e, zeroOf P e with
    | some ie, some z => bif Nat.beq z.cells.size ie.size && decide (0 ≤ l) && decide (l ≤ c) && decide (ie.bytes * c ≤ 281474976710656) && decide (c ≤ 9223372036854775807) then
        new (.cells (zerosL z.cells.toList c.toNat).toArray e (0, 0)) >>= fun k => pure (.slice (some ⟨k, 0, none⟩) l.toNat c.toNat)
      else fail
    | _, _ => fail
  | _, _, _ => fail
theorem sim_makeSliceA {t : TypeId} {l c l' c' : Value} (hl : VR E l l') (hc : VR E c c') : Sim P lo w0 E H (makeSliceA P t l c : M I Value) (Instr.makeSlice t l' c') VR := by
  unfold makeSliceA
  split
  · rename_i e kl l kc c hu
    cases hl
    cases hc
    split
    · rename_i ie z hie hz
      cases hb : (Nat.beq z.cells.size ie.size && decide (0 ≤ l) && decide (l ≤ c) && decide (ie.bytes * c ≤ 281474976710656) && decide (c ≤ 9223372036854775807)) with
      | false => exact Sim.fail
      | true =>
        simp only [Bool.and_eq_true, decide_eq_true_eq] at hb
        obtain ⟨⟨⟨⟨h1, h2⟩, h3⟩, h4⟩, h5⟩ := hb
        have h1 := Nat.eq_of_beq_eq_true h1
        have hzz : ie.zero = some z := by
          unfold zeroOf at hz
          rw [hie] at hz
          simp only at hz
          split at hz
          · rename_i z' hz'
            cases hg : gnd 3 z' with
            | true => rw [hg] at hz; simp at hz; rw [hz', hz]
            | false => rw [hg] at hz; simp at hz
          · cases hz
        refine sim_newSlice (zerosL_rel (zeroOf_run hz default).2) fun w => ?_
        rw [run_make w t e ie z hu hie hzz kl kc l c h2 h3 h4 h5, ← h1, zerosL_made]
    · exact Sim.fail
  · exact Sim.fail

def makeMapA : M I Value := new (.map #[] 0) >>= fun k => pure (.map (some k))
theorem sim_makeMapA {c : Sem Value} (hc : ∀ w, c.run P w = .ok (.map (some w.heap.size)) (w.alloc (.map #[] 0))) : Sim P lo w0 E H (makeMapA : M I Value) c VR :=
  Sim.new fun E1 g w k hE hR _ hk => ⟨_, _, 0, _, hc w, hR.alloc _, alloc_heap w _, fun i hi => Below.heap_alloc w _ i hi, .map 0 rfl (fun a c j h => by simp at h), .map (r := 0) (by simp [Env.put])⟩

/-! ### Sources of cells -/
def srcA (size m : Nat) : Value → M I (List Value)
  | .slice none _ _ => pure []
  | .slice (some ⟨k, o, _⟩) _ _ => do
    match ← rd k with
    | .cells c _ _ => bif Nat.ble (o + m * size) c.size then pure ((c.toList.drop o).take (m * size)) else fail
    | _ => fail
  | .string s => pure ((s.data.toList.take m).map fun b => .int .u8 b.toNat)
  | _ => fail
def SrcH (size m : Nat) (x : Value) (vs : List Value) (g : Nat → Option Obj) : Prop := match x with
  | .slice none _ _ => vs = []
  | .slice (some a) _ _ => ∃ c e fr, g a.block = some (.cells c e fr) ∧ a.off + m * size ≤ c.size ∧ vs = (c.toList.drop a.off).take (m * size)
  | .string s => vs = (s.data.toList.take m).map fun b => .int .u8 b.toNat
  | _ => False
theorem sim_src {α β : Type} {size m : Nat} {x : Value} {f : List Value → M I α} {c : Sem β} {R : Env → α → β → Prop} (h : ∀ vs, Sim P lo w0 E (fun g => H g ∧ SrcH size m x vs g) (f vs) c R) :
    Sim P lo w0 E H (srcA size m x >>= f) c R := by
  unfold srcA
  split
  · exact Sim.congr (pure_bind_eq _ _) ((h []).weak fun g hg => ⟨hg, rfl⟩)
  · rename_i k o sp n cp
    have hm : ∀ (ob : Obj), (match ob with
        | .cells c _ _ => bif Nat.ble (o + m * size) c.size then (pure ((c.toList.drop o).take (m * size)) : M I (List Value)) else fail
        | _ => fail) >>= f = (match ob with
        | .cells c _ _ => bif Nat.ble (o + m * size) c.size then f ((c.toList.drop o).take (m * size)) else fail
        | _ => fail) := fun ob => by
      cases ob with
      | cells c e fr => cases hb : Nat.ble (o + m * size) c.size <;> simp only [hb] <;> rfl
      | _ => rfl
    have hassoc : ((rd k >>= fun ob => match ob with
        | .cells c _ _ => bif Nat.ble (o + m * size) c.size then (pure ((c.toList.drop o).take (m * size)) : M I (List Value)) else fail
        | _ => fail) >>= f).run = (rd k >>= fun ob => (match ob with
        | .cells c _ _ => bif Nat.ble (o + m * size) c.size then f ((c.toList.drop o).take (m * size)) else fail
        | _ => fail)).run := by
      funext s
      show (M.bind (M.bind _ _) _).run s = (M.bind _ _).run s
      simp only [M.bind]
      cases (rd k : M I Obj).run s with
      | none => rfl
      | some p =>
        obtain ⟨ob, s1⟩ := p
        have := congrArg (fun x => x.run s1) (hm ob)
        exact this
    refine Sim.congr hassoc (Sim.rd fun ob => ?_)
    cases ob with
    | cells c e fr =>
      cases hb : Nat.ble (o + m * size) c.size with
      | false => simp only [hb]; exact Sim.fail
      | true =>
        simp only [hb]
        exact (h _).weak fun g hg => ⟨hg.1, c, e, fr, hg.2, Nat.le_of_ble_eq_true hb, rfl⟩
    | _ => exact Sim.fail
  · exact Sim.congr (pure_bind_eq _ _) ((h _).weak fun g hg => ⟨hg, rfl⟩)
  · exact fun s a s' hr => by obtain ⟨a1, s1, h1, h2⟩ := bind_run hr; exact (fail_run h1).elim
def LR (E : Env) (as cs : List Value) : Prop := as.length = cs.length ∧ ∀ a c : Value, ∀ j : Nat, as[j]? = some a → cs[j]? = some c → VR E a c
theorem SrcH.run {size m : Nat} {x x' : Value} {vs : List Value} {g : Nat → Option Obj} {w w1 : World} (h : SrcH size m x vs g) (hR : Rel P lo w0 E g w) (hx : VR E x x') (hw : w1.heap = w.heap) :
    ∃ vs', (Builtin.firstCells size m x').run P w1 = .ok vs'.toArray w1 ∧ LR E vs vs' ∧ ((∀ a n c, x = .slice (some a) n c → vs.length = m * size) ∧ (∀ s, x = .string s → m ≤ s.size → vs.length = m)) := by
  cases hx with
  | nils n c => simp only [SrcH] at h; subst h; exact ⟨[], by simp [Builtin.firstCells], ⟨rfl, fun a c j h => by simp at h⟩, by simp, by simp⟩
  | string s =>
    simp only [SrcH] at h; subst h
    refine ⟨_, ?_, ⟨rfl, fun a c j ha hc => ?_⟩, by simp, fun s' hs hm => ?_⟩
    · simp only [Builtin.firstCells, Sem.run_pure]
      congr 1
      apply Array.toList_inj.1
      simp [ByteArray.data_extract]
    · rw [ha] at hc; cases hc
      simp only [List.getElem?_map] at ha
      obtain ⟨b, _, rfl⟩ := Option.map_eq_some_iff.1 ha
      exact .int _ _
    · cases hs
      have : s.data.toList.length = s.size := by simp
      simp; omega
  | @slice k o b r n c hk =>
    obtain ⟨cc, e, fr, h1, h2, rfl⟩ := h
    obtain ⟨cs, fr', h3, h4, _, h5⟩ := hR.cells h1 hk
    simp only at h2
    have hlen : ((cs.toList.drop o).take (m * size)).length = m * size := by simp; omega
    have hr := run_firstCells_some (P := P) w1 size m ⟨b, o, none⟩ n c ((cs.toList.drop o).take (m * size)) hlen (fun j v hj => by
      rw [seg_getElem?] at hj
      split at hj
      · rw [add_lit0, cell_of (by rw [hw]; exact h3)]; exact hj
      · cases hj)
    refine ⟨_, hr, ⟨by rw [hlen]; simp; omega, fun a v j ha hv => ?_⟩, fun _ _ _ _ => by simp; omega, by simp⟩
    rw [seg_getElem?] at ha hv
    split at ha
    · rw [if_pos (by assumption)] at hv; exact h5 a v _ ha hv
    · cases ha
  | @wide k o b r n c hk =>
    obtain ⟨cc, e, fr, h1, h2, rfl⟩ := h
    obtain ⟨cs, fr', h3, h4, _, h5⟩ := hR.cells h1 hk
    simp only at h2
    have hlen : ((cs.toList.drop o).take (m * size)).length = m * size := by simp; omega
    have hr := run_firstCells_some (P := P) w1 size m ⟨b, o, none⟩ n (c + r) ((cs.toList.drop o).take (m * size)) hlen (fun j v hj => by
      rw [seg_getElem?] at hj
      split at hj
      · rw [add_lit0, cell_of (by rw [hw]; exact h3)]; exact hj
      · cases hj)
    refine ⟨_, hr, ⟨by rw [hlen]; simp; omega, fun a v j ha hv => ?_⟩, fun _ _ _ _ => by simp; omega, by simp⟩
    rw [seg_getElem?] at ha hv
    split at ha
    · rw [if_pos (by assumption)] at hv; exact h5 a v _ ha hv
    · cases ha
  | _ => exact h.elim
end Go.Am
