/- The abstract evaluator: loads, stores, new variables. Conditions: none. -/
import Derived.Test.YtbgjanmheagilaaDoorAmB
namespace Go.Am
open Go Go.RowKit
set_option linter.unusedVariables false
set_option linter.unusedSimpArgs false
variable {μ : Type} {I : MemI μ} {P : Program} {lo : Lim} {w0 : Bs} {E : Env} {H : (Nat → Option Obj) → Prop}

/-- The evaluation of what does not look at the world. -/
def pureRun {α : Type} (P : Program) : Sem α → Option α
  | .pure a => some a
  | .program k => pureRun P (k P)
  | .mark _ k => pureRun P k
  | _ => none
theorem pureRun_run {α : Type} {c : Sem α} {b : α} (h : pureRun P c = some b) (w : World) : c.run P w = .ok b w := by
  induction c with
  | pure a => simp [pureRun] at h; subst h; rfl
  | program k ih => simp only [pureRun] at h; exact ih P h
  | mark m k ih => simp only [pureRun] at h; exact ih h
  | _ => simp [pureRun] at h

def arg (ev : Operand → Option Value) (x : Operand) : M I Value := match ev x with
  | some v => pure v
  | none => fail
theorem pure_bind_eq {α β : Type} (a : α) (f : α → M I β) : ((Pure.pure a : M I α) >>= f).run = (f a).run := rfl
theorem Sim.congr {α β : Type} {m m' : M I α} {c : Sem β} {R : Env → α → β → Prop} (he : m.run = m'.run) (h : Sim P lo w0 E H m' c R) : Sim P lo w0 E H m c R :=
  fun s a s' hr => h s a s' (by rw [← he]; exact hr)
theorem Sim.arg {α β : Type} {ev : Operand → Option Value} {ρ : Operand → Value} {x : Operand} {f : Value → M I α} {c : Sem β} {R : Env → α → β → Prop}
    (hρ : ∀ x v, ev x = some v → VR E v (ρ x)) (h : ∀ v, VR E v (ρ x) → Sim P lo w0 E H (f v) c R) : Sim P lo w0 E H (arg ev x >>= f) c R := by
  unfold Am.arg
  cases e : ev x with
  | none => exact fun s a s' hr => by obtain ⟨a1, s1, h1, h2⟩ := bind_run hr; exact (fail_run h1).elim
  | some v => exact Sim.congr (pure_bind_eq v f) (h v (hρ x v e))

theorem Rel.cells {g : Nat → Option Obj} {w : World} (h : Rel P lo w0 E g w) {k : Nat} {c : Array Value} {e : TypeId} {fr : Nat × Nat} (hg : g k = some (.cells c e fr)) {b r : Nat} (hE : E k = some (b, r)) :
    ∃ cs fr', w.heap[b]? = some (.cells cs e fr') ∧ c.size ≤ cs.size ∧ (fr = (0, 0) → fr' = (0, 0) ∧ c.size + r * P.cellsOf e = cs.size) ∧ ∀ a v : Value, ∀ j : Nat, c[j]? = some a → cs[j]? = some v → VR E a v := by
  obtain ⟨b', r', co, h1, h2, h3⟩ := h.tie k _ hg
  rw [h1] at hE; cases hE
  cases h3 with
  | cells hs hv => exact ⟨_, _, h2, by omega, fun _ => ⟨rfl, hs⟩, hv⟩
  | seen hs hv => exact ⟨_, _, h2, by omega, fun h => absurd h (by decide), hv⟩

theorem info_of_underlying {t : TypeId} {d : TypeDesc} (h : P.underlying t = some d) : ∃ i, P.info? t = some i := by
  unfold Program.underlying at h
  cases hi : P.info? t with
  | none => rw [hi] at h; cases h
  | some i => exact ⟨i, rfl⟩
theorem cellsOf_eq {t : TypeId} {i : TypeInfo} (h : P.info? t = some i) : P.cellsOf t = i.size := by simp [Program.cellsOf, h]

/-- Whether a type's values take a row of cells. -/
def aggT (P : Program) (t : TypeId) : Option Bool := match P.underlying t with
  | some (.struct _) => some true
  | some (.array _ _) => some true
  | some _ => some false
  | none => none
theorem aggT_run {t : TypeId} {b : Bool} (h : aggT P t = some b) (w : World) : (isAgg t).run P w = .ok b w := by
  unfold aggT at h
  split at h <;> first | (cases h; done) | skip
  all_goals
    rename_i hu
    cases h
    simp [isAgg, run_underlying hu]
theorem aggT_info {t : TypeId} {b : Bool} (h : aggT P t = some b) : ∃ i, P.info? t = some i := by
  unfold aggT at h
  split at h
  · rename_i hu; exact info_of_underlying hu
  · rename_i hu; exact info_of_underlying hu
  · rename_i hu; exact info_of_underlying hu
  · cases h

/-! ### Loads -/
def loadAt (P : Program) (t : TypeId) (k o : Nat) : M I Value := do
  match ← rd k with
  | .cells c _ _ =>
    match aggT P t with
    | some true => bif Nat.ble (o + P.cellsOf t) c.size then pure (.agg ((c.toList.drop o).take (P.cellsOf t)).toArray) else fail
    | some false => match c[o]? with
      | some v => pure v
      | none => fail
    | none => fail
  | _ => fail
def loadA (P : Program) (t : TypeId) : Value → M I Value
  | .pointer (some ⟨k, o, none⟩) => loadAt P t k o
  | _ => fail

theorem add_lit0 (b o j : Nat) : (⟨b, o, none⟩ : Addr).add j = ⟨b, o + j, none⟩ := by unfold Addr.add; split <;> simp_all
theorem cell_of {w : World} {b : Nat} {cs : Array Value} {e : TypeId} {fr : Nat × Nat} (h : w.heap[b]? = some (.cells cs e fr)) (o : Nat) : w.cell? ⟨b, o, none⟩ = cs[o]? := by
  simp [World.cell?, h]

theorem seg_getElem? (c : Array Value) (o n j : Nat) : ((c.toList.drop o).take n)[j]? = if j < n then c[o + j]? else none := by
  rw [List.getElem?_take]
  split
  · simp
  · rfl

theorem sim_loadAt {t : TypeId} {k o b r : Nat} (hk : E k = some (b, r)) : Sim P lo w0 E H (loadAt P t k o : M I Value) (loadVar t ⟨b, o, none⟩) VR := by
  unfold loadAt
  refine Sim.rd fun ob => ?_
  cases ob with
  | cells c e fr =>
    cases ha : aggT P t with
    | none => exact Sim.fail
    | some bb =>
      obtain ⟨i, hi⟩ := aggT_info ha
      cases bb with
      | true =>
        cases hb : Nat.ble (o + P.cellsOf t) c.size with
        | false => simp only [hb]; exact Sim.fail
        | true =>
          simp only [hb]
          refine Sim.leaf fun E1 g w hE hR ⟨_, hg⟩ => ?_
          obtain ⟨cs, fr', h1, h2, _, h3⟩ := hR.cells hg (hE _ _ hk)
          have hle := Nat.le_of_ble_eq_true hb
          have hlen : ((cs.toList.drop o).take (P.cellsOf t)).length = P.cellsOf t := by simp; omega
          have hl := run_loadCells_list (P := P) w ⟨b, o, none⟩ ((cs.toList.drop o).take (P.cellsOf t)) (fun j v hj => by
            rw [seg_getElem?] at hj
            split at hj
            · rw [add_lit0, cell_of h1]; exact hj
            · cases hj)
          rw [hlen] at hl
          refine ⟨.agg ((cs.toList.drop o).take (P.cellsOf t)).toArray, ?_, ?_⟩
          · have hsz : (sizeOf t).run P w = .ok (P.cellsOf t) w := run_sizeOf w hi
            simp [loadVar, aggT_run ha, hsz, hl]
          · refine .agg (by simp; omega) fun a v j hj hv => ?_
            simp only [List.getElem?_toArray, seg_getElem?] at hj hv
            split at hj
            · rw [if_pos (by assumption)] at hv; exact h3 a v _ hj hv
            · cases hj
      | false =>
        cases hc : c[o]? with
        | none => simp only [hc]; exact Sim.fail
        | some v =>
          simp only [hc]
          refine Sim.leaf fun E1 g w hE hR ⟨_, hg⟩ => ?_
          obtain ⟨cs, fr', h1, h2, _, h3⟩ := hR.cells hg (hE _ _ hk)
          have ho : o < cs.size := by have := (Array.getElem?_eq_some_iff.1 hc).1; omega
          refine ⟨cs[o], ?_, h3 v _ o hc (by simp [ho])⟩
          simp [loadVar, aggT_run ha, cell_of h1, ho]
  | _ => exact Sim.fail

theorem sim_loadA {t : TypeId} {v v' : Value} (h : VR E v v') : Sim P lo w0 E H (loadA P t v : M I Value) (Instr.loadAt t v') VR := by
  unfold loadA
  split
  · cases h with
    | ptr hk => exact Sim.left (b := _) (fun w => rfl) (sim_loadAt hk)
  · exact Sim.fail

/-! ### Stores -/
theorem VR.cells {v v' : Value} (h : VR E v v') : ARl E v.cells v'.cells := by
  have one : ∀ {x x' : Value}, VR E x x' → ARl E #[x] #[x'] := fun {x x'} hx => ⟨rfl, fun a c j ha hc => by
    rcases j with _ | j
    · simp at ha hc; subst ha; subst hc; exact hx
    · simp at ha⟩
  cases h with
  | agg h1 h2 => exact ⟨h1, h2⟩
  | bool b => exact one (.bool b)
  | int k n => exact one (.int k n)
  | float k n => exact one (.float k n)
  | cplx k n m => exact one (.cplx k n m)
  | string s => exact one (.string s)
  | nilp => exact one .nilp
  | ptr h => exact one (.ptr h)
  | nils n c => exact one (.nils n c)
  | slice n c h => exact one (.slice n c h)
  | wide n c h => exact one (.wide n c h)
  | nilm => exact one .nilm
  | map h => exact one (.map h)
  | func h1 h2 h3 h4 => exact one (.func h1 h2 h3 h4)
  | yield h => exact one (.yield h)
  | nilf => exact one .nilf
  | iface t h => exact one (.iface t h)
  | nili => exact one .nili
  | tuple h1 h2 => exact one (.tuple h1 h2)
theorem VR.one {v v' : Value} (h : VR E v v') : v'.oneCell' = v.oneCell' := by cases h <;> rfl

def splice (c : Array Value) (o : Nat) (vs : List Value) : Array Value := (c.toList.take o ++ vs ++ c.toList.drop (o + vs.length)).toArray

theorem splice_getElem? (c : Array Value) (o : Nat) (vs : List Value) (h : o + vs.length ≤ c.size) (j : Nat) : (splice c o vs)[j]? = if j < o then c[j]? else if j < o + vs.length then vs[j - o]? else c[j]? := by
  have h1 : (c.toList.take o).length = o := by simp; omega
  unfold splice
  simp only [List.getElem?_toArray, List.append_assoc]
  by_cases h2 : j < o
  · rw [List.getElem?_append_left (by omega), List.getElem?_take, if_pos h2, if_pos h2]; simp
  · rw [List.getElem?_append_right (by omega), h1, if_neg h2]
    by_cases h3 : j < o + vs.length
    · rw [List.getElem?_append_left (by omega), if_pos h3]
    · rw [List.getElem?_append_right (by omega), if_neg h3, List.getElem?_drop]
      rw [show o + vs.length + (j - o - vs.length) = j by omega]; simp
theorem splice_size (c : Array Value) (o : Nat) (vs : List Value) (h : o + vs.length ≤ c.size) : (splice c o vs).size = c.size := by
  unfold splice; simp; omega

theorem splice_rel {c cs : Array Value} {o : Nat} {vs vs' : List Value} (h : o + vs.length ≤ c.size) (hc : c.size ≤ cs.size) (hl : vs.length = vs'.length)
    (h1 : ∀ a v : Value, ∀ j : Nat, c[j]? = some a → cs[j]? = some v → VR E a v) (h2 : ∀ a v : Value, ∀ j : Nat, vs[j]? = some a → vs'[j]? = some v → VR E a v) :
    ∀ a v : Value, ∀ j : Nat, (splice c o vs)[j]? = some a → (splice cs o vs')[j]? = some v → VR E a v := by
  intro a v j ha hv
  rw [splice_getElem? c o vs h] at ha
  rw [splice_getElem? cs o vs' (by omega)] at hv
  by_cases e : j < o
  · rw [if_pos e] at ha hv; exact h1 a v j ha hv
  · rw [if_neg e] at ha hv
    by_cases e2 : j < o + vs.length
    · rw [if_pos e2] at ha; rw [if_pos (by omega)] at hv; exact h2 a v _ ha hv
    · rw [if_neg e2] at ha; rw [if_neg (by omega)] at hv; exact h1 a v j ha hv

theorem turned_setRow {w : World} {b : Nat} {old cs : Array Value} {t : TypeId} {fr : Nat × Nat} (h : w.heap[b]? = some (.cells old t fr)) : Turned b (.cells cs t fr) w (w.setRow b cs) :=
  ⟨rfl, rfl, rfl, by simp, setRow_heap w b old cs t fr h, fun i hi => setRow_other w b i cs hi⟩

/-- Stores a row of cells. -/
def putA (lo : Lim) (k o : Nat) (vs : List Value) : M I Unit := do
  match ← rd k with
  | .cells c e (0, 0) => bif Nat.ble (o + vs.length) c.size && vs.all Value.oneCell' then wr lo k (some (.cells (splice c o vs) e (0, 0))) >>= fun _ => pure () else fail
  | _ => fail

theorem sim_putA {k o b r : Nat} {vs vs' : List Value} (hk : E k = some (b, r)) (hl : vs.length = vs'.length) (hv : ∀ a v : Value, ∀ j : Nat, vs[j]? = some a → vs'[j]? = some v → VR E a v) :
    Sim P lo w0 E H (putA lo k o vs : M I Unit) (storeCells ⟨b, o, none⟩ vs') (fun _ _ _ => True) := by
  unfold putA
  refine Sim.rd fun ob => ?_
  split
  · rename_i c e
    cases hb : (Nat.ble (o + vs.length) c.size && vs.all Value.oneCell') with
    | false => exact Sim.fail
    | true =>
      simp only [Bool.and_eq_true] at hb
      have hle := Nat.le_of_ble_eq_true hb.1
      refine Sim.wr fun E1 g w hE hR ⟨_, hg⟩ o0 hg0 hlo => ?_
      obtain ⟨cs, fr', h1, h2, h4, h3⟩ := hR.cells hg (hE _ _ hk)
      obtain ⟨rfl, h5⟩ := h4 rfl
      have hone : ∀ v ∈ vs', v.oneCell' = true := fun v hv' => by
        obtain ⟨j, hj, rfl⟩ := List.getElem_of_mem hv'
        have hj' : j < vs.length := by omega
        have := (hv vs[j] vs'[j] j (by simp [hj']) (by simp [hj])).one
        rw [this]
        exact List.all_eq_true.1 hb.2 _ (List.getElem_mem _)
      have hst := run_storeCells_at P b o e vs' 0 cs w h1 (by omega) hone
      refine ⟨(), _, b, r, .cells (splice cs o vs') e (0, 0), hst, hE _ _ hk, turned_setRow h1, .cells ?_ ?_, trivial⟩
      · rw [splice_size _ _ _ (by omega), splice_size _ _ _ (by omega)]; exact h5
      · exact splice_rel hle h2 hl h3 fun a v j ha hv' => (hv a v j ha hv').mono hE
  · exact Sim.fail

def storeA (P : Program) (lo : Lim) (t : TypeId) (p v : Value) : M I Unit := match p with
  | .pointer (some ⟨k, o, none⟩) => match P.info? t with
    | some i => bif Nat.beq v.cells.size i.size then putA lo k o v.cells.toList else fail
    | none => fail
  | _ => fail
theorem sim_storeA {t : TypeId} {p p' v v' : Value} (hp : VR E p p') (hv : VR E v v') : Sim P lo w0 E H (storeA P lo t p v : M I Unit) (Instr.storeAt t p' v') (fun _ _ _ => True) := by
  unfold storeA
  split
  · cases hp with
    | ptr hk =>
      cases hi : P.info? t with
      | none => exact Sim.fail
      | some i =>
        cases hb : Nat.beq v.cells.size i.size with
        | false => simp only [hb]; exact Sim.fail
        | true =>
          simp only [hb]
          have hsz := Nat.eq_of_beq_eq_true hb
          have hc := hv.cells
          refine Sim.eqrun (c := storeCells _ v'.cells.toList) (fun w => ?_) (sim_putA hk (by simpa using hc.1) fun a u j ha hu => hc.2 a u j (by simpa using ha) (by simpa using hu))
          have : ¬ (v'.cells.size ≠ i.size) := by rw [← hc.1, hsz]; simp
          simp [Instr.storeAt, Instr.sureAddr, storeVar, sizeOf, typeInfo, hi, this]
  · exact Sim.fail

/-! ### New variables -/
theorem alloc_heap (w : World) (o : Obj) : (w.alloc o).heap[w.heap.size]? = some o := heap_alloc_new w o
theorem Rel.alloc {g : Nat → Option Obj} {w : World} (h : Rel P lo w0 E g w) (o : Obj) : Below w0.w.heap.size w0.w (w.alloc o) := h.below.alloc h.below.size o

def newA (e : TypeId) (cs : Array Value) : M I Value := new (.cells cs e (0, 0)) >>= fun k => pure (.pointer (some ⟨k, 0, none⟩))
theorem sim_newA {e : TypeId} {cs cs' : Array Value} (h : ARl E cs cs') {c : Sem Value} (hc : ∀ w, c.run P w = .ok (.pointer (some ⟨w.heap.size, 0, none⟩)) (w.alloc (.cells cs' e (0, 0)))) : Sim P lo w0 E H (newA e cs : M I Value) c VR :=
  Sim.new fun E1 g w k hE hR _ hk => ⟨_, _, 0, _, hc w, hR.alloc _, alloc_heap w _, fun i hi => Below.heap_alloc w _ i hi,
    .cells (by rw [Nat.zero_mul]; exact h.1) (fun a v j ha hv => ((h.2 a v j ha hv).mono hE).mono (Env.put_keep hk)), .ptr (r := 0) (by simp [Env.put])⟩

def zeroOf (P : Program) (t : TypeId) : Option Value := match P.info? t with
  | some i => match i.zero with
    | some z => bif gnd 3 z then some z else none
    | none => none
  | none => none
theorem zeroOf_run {t : TypeId} {z : Value} (h : zeroOf P t = some z) (w : World) : (zeroValue t).run P w = .ok z w ∧ gnd 3 z = true := by
  unfold zeroOf at h
  split at h
  · rename_i i hi
    split at h
    · rename_i z' hz
      cases hg : gnd 3 z' with
      | false => simp [hg] at h
      | true =>
        simp [hg] at h; subst h
        exact ⟨by simp [zeroValue, typeInfo, hi, hz], hg⟩
    · cases h
  · cases h

def allocA (P : Program) (t : TypeId) : M I Value := match zeroOf P t with
  | some z => newA t z.cells
  | none => fail
theorem sim_allocA {t : TypeId} : Sim P lo w0 E H (allocA P t : M I Value) (Instr.alloc t true (.tuple #[])) VR := by
  unfold allocA
  split
  · rename_i z hz
    refine sim_newA (gnd_refl E 3 z (zeroOf_run hz default).2).cells fun w => ?_
    simp [Instr.alloc, (zeroOf_run hz w).1, newVar, newRow]
  · exact Sim.fail
def boxA (t : TypeId) (v : Value) : M I Value := newA t v.cells
theorem sim_boxA {t : TypeId} {v v' : Value} (h : VR E v v') : Sim P lo w0 E H (boxA t v : M I Value) (Instr.box t v') VR :=
  sim_newA h.cells fun w => by simp [Instr.box, newVar, newRow]
end Go.Am
