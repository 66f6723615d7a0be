/- The abstract evaluator: literals, make, append, copy. Conditions: none. -/
import Derived.Test.YtbgjanmheagilaaDoorAmD
namespace Go.Am
open Go Go.RowKit
set_option linter.unusedVariables false
set_option linter.unusedSimpArgs false
variable {μ : Type} {I : MemI μ} {P : Program} {lo : Lim} {w0 : Bs} {E : Env} {H : (Nat → Option Obj) → Prop}

/-! ### Literals -/
theorem ARl.set {as cs : Array Value} (h : ARl E as cs) {a c : Value} (i : Nat) (hv : VR E a c) : ARl E (as.setIfInBounds i a) (cs.setIfInBounds i c) := by
  refine ⟨by simpa using h.1, fun x y j hx hy => ?_⟩
  rw [Array.getElem?_setIfInBounds] at hx hy
  by_cases e : i = j
  · subst e
    simp only [if_true] at hx hy
    split at hx <;> split at hy <;> first | (cases hx; done) | (cases hy; done) | (cases hx; cases hy; exact hv)
  · rw [if_neg e] at hx hy
    exact h.2 x y j hx hy
def PR (E : Env) : List (Nat × Value) → List (Nat × Value) → Prop
  | [], [] => True
  | a :: as, c :: cs => a.1 = c.1 ∧ VR E a.2 c.2 ∧ PR E as cs
  | _, _ => False
theorem fold_rel (off : Nat) : ∀ (l l' : List Value) (n : Nat) (as cs : Array Value), l.length = l'.length → (∀ a c : Value, ∀ j : Nat, l[j]? = some a → l'[j]? = some c → VR E a c) → ARl E as cs →
    ARl E ((l.zipIdx n).foldl (fun b x => b.setIfInBounds (off + x.2) x.1) as) ((l'.zipIdx n).foldl (fun b x => b.setIfInBounds (off + x.2) x.1) cs)
  | [], [], n, as, cs, _, _, h => h
  | a :: l, c :: l', n, as, cs, hl, hv, h => by
    simp only [List.zipIdx_cons, List.foldl_cons]
    exact fold_rel off l l' (n + 1) _ _ (by simpa using hl) (fun x y j hx hy => hv x y (j + 1) (by simpa using hx) (by simpa using hy)) (h.set _ (hv a c 0 rfl rfl))
  | [], _ :: _, _, _, _, hl, _, _ => by simp at hl
  | _ :: _, [], _, _, _, hl, _, _ => by simp at hl
theorem fill_rel (place : Nat → Option (Nat × Nat)) : ∀ (ps ps' : List (Nat × Value)) (as cs r : Array Value), PR E ps ps' → ARl E as cs → Instr.fill place as ps = some r → ∃ r', Instr.fill place cs ps' = some r' ∧ ARl E r r'
  | [], [], as, cs, r, _, h, hf => by simp [Instr.fill] at hf; subst hf; exact ⟨cs, rfl, h⟩
  | (i, v) :: ps, (i', v') :: ps', as, cs, r, hp, h, hf => by
    obtain ⟨h1, h2, h3⟩ := hp
    simp only at h1 h2
    subst h1
    have hc := h2.cells
    simp only [Instr.fill] at hf ⊢
    split at hf
    · cases hf
    · rename_i off size hpl
      rw [← hc.1, ← h.1]
      split at hf
      · cases hf
      · rename_i hne
        rw [if_neg hne]
        refine fill_rel place ps ps' _ _ r h3 ?_ hf
        have := fold_rel off v.cells.toList v'.cells.toList 0 as cs (by simpa using hc.1) (fun a c j ha hc' => hc.2 a c j (by simpa using ha) (by simpa using hc')) h
        have tr : ∀ (u : Array Value) (b : Array Value), u.zipIdx.foldl (fun cs (x : Value × Nat) => cs.setIfInBounds (off + x.2) x.1) b = (u.toList.zipIdx).foldl (fun b x => b.setIfInBounds (off + x.2) x.1) b := fun u b => by
          rw [← Array.foldl_toList, Array.toList_zipIdx]
        exact (tr v.cells as).symm ▸ (tr v'.cells cs).symm ▸ this
  | [], _ :: _, _, _, _, hp, _, _ => hp.elim
  | _ :: _, [], _, _, _, hp, _, _ => hp.elim

def zeroG (P : Program) (t : TypeId) : Bool := (zeroOf P t).isSome
theorem zeroG_spec {t : TypeId} {i : TypeInfo} {z : Value} (h : zeroG P t = true) (hi : P.info? t = some i) (hz : i.zero = some z) : gnd 3 z = true := by
  unfold zeroG zeroOf at h
  rw [hi] at h
  simp only [hz] at h
  cases hg : gnd 3 z with
  | true => rfl
  | false => simp [hg] at h

def buildA (P : Program) (t : TypeId) (parts : List (Nat × Value)) : M I Value := bif zeroG P t then match P.built t parts with
    | some cs => pure (.agg cs)
    | none => fail
  else fail
theorem built_rel {t : TypeId} {ps ps' : List (Nat × Value)} {r : Array Value} (hz0 : zeroG P t = true) (hp : PR E ps ps') (h : P.built t ps = some r) : ∃ r', P.built t ps' = some r' ∧ ARl E r r' := by
  unfold Program.built at h ⊢
  split at h
  · rename_i it n e hit hu
    split at h
    · rename_i z ie hz hie
      exact fill_rel _ ps ps' z.cells z.cells r hp (gnd_refl E 3 z (zeroG_spec hz0 hit hz)).cells h
    · cases h
  · rename_i it fs hit hu
    split at h
    · rename_i z pl hz hpl
      exact fill_rel _ ps ps' z.cells z.cells r hp (gnd_refl E 3 z (zeroG_spec hz0 hit hz)).cells h
    · cases h
  · cases h
theorem sim_buildA {t : TypeId} {ps : List (Nat × Value)} {ps' : Array (Nat × Value)} (hp : PR E ps ps'.toList) : Sim P lo w0 E H (buildA P t ps : M I Value) (Instr.build t ps') VR := by
  unfold buildA
  cases hz : zeroG P t with
  | false => exact Sim.fail
  | true =>
    simp only [cond_true]
    split
    · rename_i cs hb
      obtain ⟨r', h1, h2⟩ := built_rel hz hp hb
      exact Sim.val ⟨.agg r', fun w => run_build w t ps' r' h1, .agg h2.1 h2.2⟩
    · exact Sim.fail

/-- n cells of zeros. -/
def zerosL (z : List Value) : Nat → List Value
  | 0 => []
  | n + 1 => z ++ zerosL z n
theorem zerosL_length (z : List Value) (n : Nat) : (zerosL z n).length = n * z.length := by
  induction n with
  | zero => simp [zerosL]
  | succ n ih => simp [zerosL, ih, Nat.add_mul]; omega
theorem zerosL_getElem? (z : List Value) : ∀ (n j : Nat), j < n * z.length → (zerosL z n)[j]? = z[j % z.length]?
  | 0, j, h => by simp at h
  | n + 1, j, h => by
    simp only [zerosL]
    by_cases hj : j < z.length
    · rw [List.getElem?_append_left hj, Nat.mod_eq_of_lt hj]
    · rw [List.getElem?_append_right (by omega), zerosL_getElem? z n (j - z.length) (by rw [Nat.add_mul] at h; omega)]
      congr 1
      exact (Nat.mod_eq_sub_mod (by omega)).symm
theorem zerosL_made (z : Array Value) (n : Nat) : madeCells z (n * z.size) = (zerosL z.toList n).toArray := by
  apply Array.ext_getElem?
  intro j
  by_cases hj : j < n * z.size
  · have hz : 0 < z.size := by rcases Nat.eq_zero_or_pos z.size with h | h; (rw [h] at hj; simp at hj); exact h
    have hm := Nat.mod_lt j hz
    have h2 := zerosL_getElem? z.toList n j (by simpa using hj)
    simp only [Array.length_toList] at h2
    have h3 : (zerosL z.toList n).toArray[j]? = (zerosL z.toList n)[j]? := by simp
    rw [h3, h2]
    simp [madeCells, hj, hm]
  · rw [Array.getElem?_eq_none (by simp [madeCells]; omega), Array.getElem?_eq_none (by simp [zerosL_length]; omega)]

def buildSliceA (P : Program) (t : TypeId) (n : Nat) (ps : List (Nat × Value)) : M I Value := match P.underlying t with
  | some (.slice e) => match P.info? e, zeroOf P e with
    | some ie, some z => bif Nat.beq z.cells.size ie.size && Nat.ble (n * ie.size) 16777216 then
        match Instr.fill (fun i => some (i * ie.size, ie.size)) (zerosL z.cells.toList n).toArray ps with
        | some cs => new (.cells cs e (0, 0)) >>= fun k => pure (.slice (some ⟨k, 0, none⟩) n n)
        | none => fail
      else fail
    | _, _ => fail
  | _ => fail
theorem zerosL_rel {z : Value} {n : Nat} (hz : gnd 3 z = true) : ARl E (zerosL z.cells.toList n).toArray (zerosL z.cells.toList n).toArray := by
  refine ⟨rfl, fun a c j ha hc => ?_⟩
  rw [ha] at hc; cases hc
  have hj : j < n * z.cells.size := by
    have := (Array.getElem?_eq_some_iff.1 ha).1
    simpa [zerosL_length] using this
  rw [List.getElem?_toArray, zerosL_getElem? _ _ _ (by simpa using hj)] at ha
  exact (gnd_refl E 3 z hz).cells.2 a a _ (by simpa using ha) (by simpa using ha)
theorem sim_newSlice {e : TypeId} {cs cs' : Array Value} {n m : Nat} (h : ARl E cs cs') {c : Sem Value} (hc : ∀ w, c.run P w = .ok (.slice (some ⟨w.heap.size, 0, none⟩) n m) (w.alloc (.cells cs' e (0, 0)))) :
    Sim P lo w0 E H (new (.cells cs e (0, 0)) >>= fun k => (pure (.slice (some ⟨k, 0, none⟩) n m) : M I Value)) c VR :=
  Sim.new fun E1 g w k hE hR _ hk => ⟨_, _, 0, _, hc w, hR.alloc _, alloc_heap w _, fun i hi => Below.heap_alloc w _ i hi,
    .cells (by rw [Nat.zero_mul]; exact h.1) (fun a v j ha hv => ((h.2 a v j ha hv).mono hE).mono (Env.put_keep hk)), .slice (r := 0) _ _ (by simp [Env.put])⟩
theorem sim_buildSliceA {t : TypeId} {n : Nat} {ps : List (Nat × Value)} {ps' : Array (Nat × Value)} (hp : PR E ps ps'.toList) : Sim P lo w0 E H (buildSliceA P t n ps : M I Value) (Instr.buildSlice t n ps') VR := by
  unfold buildSliceA
  split
  · rename_i e hu
    split
    · rename_i ie z hie hz
      cases hb : (Nat.beq z.cells.size ie.size && Nat.ble (n * ie.size) 16777216) with
      | false => exact Sim.fail
      | true =>
        simp only [Bool.and_eq_true] at hb
        have h1 := Nat.eq_of_beq_eq_true hb.1
        have h2 := Nat.le_of_ble_eq_true hb.2
        simp only [cond_true]
        split
        · rename_i cs hf
          have hzr := zeroOf_run hz
          obtain ⟨r', hr', hA⟩ := fill_rel _ ps ps'.toList _ _ cs hp (zerosL_rel (n := n) (hzr default).2) hf
          refine sim_newSlice hA fun w => ?_
          have hle : ¬ (2 ^ 24 < n * ie.size) := by omega
          have hle' : ¬ (16777216 < n * ie.size) := by omega
          by_cases h0 : n * ie.size = 0
          · have : zerosL z.cells.toList n = [] := List.eq_nil_of_length_eq_zero (by rw [zerosL_length]; simpa [h1] using h0)
            rw [this] at hr'
            have e0 : ∀ f : Nat → Value, (Array.range 0).map f = #[] := fun f => by simp
            simp [Instr.buildSlice, run_underlying hu, sizeOf, typeInfo, hie, h0, newRow]
            rw [e0, hr']
            simp
          · have hm := zerosL_made z.cells n
            rw [h1] at hm
            rw [← hm] at hr'
            unfold madeCells at hr'
            simp [Instr.buildSlice, run_underlying hu, sizeOf, typeInfo, hie, h0, hle', (hzr w).1, newRow, hr']
        · exact Sim.fail
    · exact Sim.fail
  · exact Sim.fail

def makeSliceA (P : Program) (t : TypeId) (l c : Value) : M I Value := match P.underlying t, l, c with
  | some (.slice e), .int _ l, .int _ c => match P.info? e, zeroOf P e with
    | some ie, some z => bif Nat.beq z.cells.size ie.size && decide (0 ≤ l) && decide (l ≤ c) && decide (ie.bytes * c ≤ 281474976710656) && decide (c ≤ 9223372036854775807) then
        new (.cells (zerosL z.cells.toList c.toNat).toArray e (0, 0)) >>= fun k => pure (.slice (some ⟨k, 0, none⟩) l.toNat c.toNat)
      else fail
    | _, _ => fail
  | _, _, _ => fail
theorem sim_makeSliceA {t : TypeId} {l c l' c' : Value} (hl : VR E l l') (hc : VR E c c') : Sim P lo w0 E H (makeSliceA P t l c : M I Value) (Instr.makeSlice t l' c') VR := by
  unfold makeSliceA
  split
  · rename_i e kl l kc c hu
    cases hl
    cases hc
    split
    · rename_i ie z hie hz
      cases hb : (Nat.beq z.cells.size ie.size && decide (0 ≤ l) && decide (l ≤ c) && decide (ie.bytes * c ≤ 281474976710656) && decide (c ≤ 9223372036854775807)) with
      | false => exact Sim.fail
      | true =>
        simp only [Bool.and_eq_true, decide_eq_true_eq] at hb
        obtain ⟨⟨⟨⟨h1, h2⟩, h3⟩, h4⟩, h5⟩ := hb
        have h1 := Nat.eq_of_beq_eq_true h1
        have hzz : ie.zero = some z := by
          unfold zeroOf at hz
          rw [hie] at hz
          simp only at hz
          split at hz
          · rename_i z' hz'
            cases hg : gnd 3 z' with
            | true => rw [hg] at hz; simp at hz; rw [hz', hz]
            | false => rw [hg] at hz; simp at hz
          · cases hz
        refine sim_newSlice (zerosL_rel (zeroOf_run hz default).2) fun w => ?_
        rw [run_make w t e ie z hu hie hzz kl kc l c h2 h3 h4 h5, ← h1, zerosL_made]
    · exact Sim.fail
  · exact Sim.fail

def makeMapA : M I Value := new (.map #[] 0) >>= fun k => pure (.map (some k))
theorem sim_makeMapA {c : Sem Value} (hc : ∀ w, c.run P w = .ok (.map (some w.heap.size)) (w.alloc (.map #[] 0))) : Sim P lo w0 E H (makeMapA : M I Value) c VR :=
  Sim.new fun E1 g w k hE hR _ hk => ⟨_, _, 0, _, hc w, hR.alloc _, alloc_heap w _, fun i hi => Below.heap_alloc w _ i hi, .map 0 rfl (fun a c j h => by simp at h), .map (r := 0) (by simp [Env.put])⟩

/-! ### Sources of cells -/
def srcA (size m : Nat) : Value → M I (List Value)
  | .slice none _ _ => pure []
  | .slice (some ⟨k, o, _⟩) _ _ => do
    match ← rd k with
    | .cells c _ _ => bif Nat.ble (o + m * size) c.size then pure ((c.toList.drop o).take (m * size)) else fail
    | _ => fail
  | .string s => pure ((s.data.toList.take m).map fun b => .int .u8 b.toNat)
  | _ => fail
def SrcH (size m : Nat) (x : Value) (vs : List Value) (g : Nat → Option Obj) : Prop := match x with
  | .slice none _ _ => vs = []
  | .slice (some a) _ _ => ∃ c e fr, g a.block = some (.cells c e fr) ∧ a.off + m * size ≤ c.size ∧ vs = (c.toList.drop a.off).take (m * size)
  | .string s => vs = (s.data.toList.take m).map fun b => .int .u8 b.toNat
  | _ => False
theorem sim_src {α β : Type} {size m : Nat} {x : Value} {f : List Value → M I α} {c : Sem β} {R : Env → α → β → Prop} (h : ∀ vs, Sim P lo w0 E (fun g => H g ∧ SrcH size m x vs g) (f vs) c R) :
    Sim P lo w0 E H (srcA size m x >>= f) c R := by
  unfold srcA
  split
  · exact Sim.congr (pure_bind_eq _ _) ((h []).weak fun g hg => ⟨hg, rfl⟩)
  · rename_i k o sp n cp
    have hm : ∀ (ob : Obj), (match ob with
        | .cells c _ _ => bif Nat.ble (o + m * size) c.size then (pure ((c.toList.drop o).take (m * size)) : M I (List Value)) else fail
        | _ => fail) >>= f = (match ob with
        | .cells c _ _ => bif Nat.ble (o + m * size) c.size then f ((c.toList.drop o).take (m * size)) else fail
        | _ => fail) := fun ob => by
      cases ob with
      | cells c e fr => cases hb : Nat.ble (o + m * size) c.size <;> simp only [hb] <;> rfl
      | _ => rfl
    have hassoc : ((rd k >>= fun ob => match ob with
        | .cells c _ _ => bif Nat.ble (o + m * size) c.size then (pure ((c.toList.drop o).take (m * size)) : M I (List Value)) else fail
        | _ => fail) >>= f).run = (rd k >>= fun ob => (match ob with
        | .cells c _ _ => bif Nat.ble (o + m * size) c.size then f ((c.toList.drop o).take (m * size)) else fail
        | _ => fail)).run := by
      funext s
      show (M.bind (M.bind _ _) _).run s = (M.bind _ _).run s
      simp only [M.bind]
      cases (rd k : M I Obj).run s with
      | none => rfl
      | some p =>
        obtain ⟨ob, s1⟩ := p
        have := congrArg (fun x => x.run s1) (hm ob)
        exact this
    refine Sim.congr hassoc (Sim.rd fun ob => ?_)
    cases ob with
    | cells c e fr =>
      cases hb : Nat.ble (o + m * size) c.size with
      | false => simp only [hb]; exact Sim.fail
      | true =>
        simp only [hb]
        exact (h _).weak fun g hg => ⟨hg.1, c, e, fr, hg.2, Nat.le_of_ble_eq_true hb, rfl⟩
    | _ => exact Sim.fail
  · exact Sim.congr (pure_bind_eq _ _) ((h _).weak fun g hg => ⟨hg, rfl⟩)
  · exact fun s a s' hr => by obtain ⟨a1, s1, h1, h2⟩ := bind_run hr; exact (fail_run h1).elim
def LR (E : Env) (as cs : List Value) : Prop := as.length = cs.length ∧ ∀ a c : Value, ∀ j : Nat, as[j]? = some a → cs[j]? = some c → VR E a c
theorem SrcH.run {size m : Nat} {x x' : Value} {vs : List Value} {g : Nat → Option Obj} {w w1 : World} (h : SrcH size m x vs g) (hR : Rel P lo w0 E g w) (hx : VR E x x') (hw : w1.heap = w.heap) :
    ∃ vs', (Builtin.firstCells size m x').run P w1 = .ok vs'.toArray w1 ∧ LR E vs vs' ∧ ((∀ a n c, x = .slice (some a) n c → vs.length = m * size) ∧ (∀ s, x = .string s → m ≤ s.size → vs.length = m)) := by
  cases hx with
  | nils n c => simp only [SrcH] at h; subst h; exact ⟨[], by simp [Builtin.firstCells], ⟨rfl, fun a c j h => by simp at h⟩, by simp, by simp⟩
  | string s =>
    simp only [SrcH] at h; subst h
    refine ⟨_, ?_, ⟨rfl, fun a c j ha hc => ?_⟩, by simp, fun s' hs hm => ?_⟩
    · simp only [Builtin.firstCells, Sem.run_pure]
      congr 1
      apply Array.toList_inj.1
      simp [ByteArray.data_extract]
    · rw [ha] at hc; cases hc
      simp only [List.getElem?_map] at ha
      obtain ⟨b, _, rfl⟩ := Option.map_eq_some_iff.1 ha
      exact .int _ _
    · cases hs
      have : s.data.toList.length = s.size := by simp
      simp; omega
  | @slice k o b r n c hk =>
    obtain ⟨cc, e, fr, h1, h2, rfl⟩ := h
    obtain ⟨cs, fr', h3, h4, _, h5⟩ := hR.cells h1 hk
    simp only at h2
    have hlen : ((cs.toList.drop o).take (m * size)).length = m * size := by simp; omega
    have hr := run_firstCells_some (P := P) w1 size m ⟨b, o, none⟩ n c ((cs.toList.drop o).take (m * size)) hlen (fun j v hj => by
      rw [seg_getElem?] at hj
      split at hj
      · rw [add_lit0, cell_of (by rw [hw]; exact h3)]; exact hj
      · cases hj)
    refine ⟨_, hr, ⟨by rw [hlen]; simp; omega, fun a v j ha hv => ?_⟩, fun _ _ _ _ => by simp; omega, by simp⟩
    rw [seg_getElem?] at ha hv
    split at ha
    · rw [if_pos (by assumption)] at hv; exact h5 a v _ ha hv
    · cases ha
  | @wide k o b r n c hk =>
    obtain ⟨cc, e, fr, h1, h2, rfl⟩ := h
    obtain ⟨cs, fr', h3, h4, _, h5⟩ := hR.cells h1 hk
    simp only at h2
    have hlen : ((cs.toList.drop o).take (m * size)).length = m * size := by simp; omega
    have hr := run_firstCells_some (P := P) w1 size m ⟨b, o, none⟩ n (c + r) ((cs.toList.drop o).take (m * size)) hlen (fun j v hj => by
      rw [seg_getElem?] at hj
      split at hj
      · rw [add_lit0, cell_of (by rw [hw]; exact h3)]; exact hj
      · cases hj)
    refine ⟨_, hr, ⟨by rw [hlen]; simp; omega, fun a v j ha hv => ?_⟩, fun _ _ _ _ => by simp; omega, by simp⟩
    rw [seg_getElem?] at ha hv
    split at ha
    · rw [if_pos (by assumption)] at hv; exact h5 a v _ ha hv
    · cases ha
  | _ => exact h.elim
end Go.Am
