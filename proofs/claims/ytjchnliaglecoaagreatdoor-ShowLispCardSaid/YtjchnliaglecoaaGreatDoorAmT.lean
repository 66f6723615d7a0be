/- The abstract evaluator beside strings.Builder: its copyCheck and its String are answered by hooks. Conditions: none. -/
import Derived.Lib.UnsafeStr
import Derived.Test.YtjchnliaglecoaaGreatDoorAmQX
set_option linter.unusedVariables false
set_option linter.unusedSimpArgs false
namespace Go.Am
open Go Go.RowKit
set_option linter.unusedVariables false
set_option linter.unusedSimpArgs false
variable {μ : Type} {I : MemI μ} {P : Program} {lo : Lim} {w0 : Bs}
theorem rowAt_more {fits : TypeId → Bool} : ∀ (d : Nat) (e : TypeId) (c c' off n : Nat), c ≤ c' → rowAt P fits d e c off n = true → rowAt P fits d e c' off n = true
  | 0, _, _, _, _, _, _, h => by simp [rowAt] at h
  | d + 1, e, c, c', off, n, hc, h => by
    unfold rowAt at h ⊢
    simp only at h ⊢
    split
    · rename_i h0; rw [if_pos h0] at h; exact h
    · rename_i h0
      rw [if_neg h0] at h
      rw [Bool.or_eq_true] at h ⊢
      rcases h with h | h
      · left
        simp only [Bool.and_eq_true, decide_eq_true_eq] at h ⊢
        exact ⟨⟨h.1.1, by omega⟩, h.2⟩
      · right
        rw [Bool.and_eq_true, decide_eq_true_eq] at h ⊢
        exact ⟨by omega, h.2⟩
theorem liesAt_more : ∀ (d : Nat) (e : TypeId) (c c' off : Nat) (u : TypeId) (n : Nat), c ≤ c' → liesAt P d e c off u n = true → liesAt P d e c' off u n = true
  | 0, _, _, _, _, _, _, _, h => by simp [liesAt] at h
  | d + 1, e, c, c', off, u, n, hc, h => by
    unfold liesAt at h ⊢
    rw [Bool.or_eq_true] at h ⊢
    rcases h with h | h
    · exact .inl (rowAt_more _ _ _ _ _ _ hc h)
    · right
      split at h
      · exact liesAt_more d e c c' off _ _ hc h
      · cases h
/-- A block that stands, turned into what it was. -/
theorem Rel.same {E : Env} {g : Nat → Option Obj} {w w' : World} (h : Rel P lo w0 E g w) {b : Nat} {co : Obj} (hb : w.heap[b]? = some co) (hw : Turned b co w w') : Rel P lo w0 E g w' := by
  have he : ∀ i, w'.heap[i]? = w.heap[i]? := fun i => by
    by_cases e : i = b
    · subst e; rw [hw.at_, hb]
    · exact hw.other i e
  refine ⟨h.below.trans ⟨hw.os, hw.tape, hw.output, Nat.le_of_eq hw.size.symm, fun i _ => he i⟩, fun k o hk => ?_, h.inj, h.own, h.old, h.kept⟩
  obtain ⟨b', r', co', h1, h2, h3⟩ := h.tie k o hk
  exact ⟨b', r', co', h1, by rw [he]; exact h2, h3⟩
/-- A block whose name is given up. -/
theorem Rel.lose {E : Env} {g : Nat → Option Obj} {w w' : World} (h : Rel P lo w0 E g w) {k0 b r : Nat} {o0 : Obj} {co : Obj} (hg : g k0 = some o0) (hE : E k0 = some (b, r)) (hlo : lo.lo ≤ k0)
    (hw : Turned b co w w') : Rel P lo w0 E (fun k => if k = k0 then none else g k) w' := by
  have hk := h.kill k0
  refine ⟨?_, ?_, hk.inj, hk.own, hk.old, hk.kept⟩
  · refine h.below.trans ⟨hw.os, hw.tape, hw.output, Nat.le_of_eq hw.size.symm, fun i hi => hw.other i ?_⟩
    have := h.own k0 b r hlo hE
    omega
  · intro k o' hk'
    by_cases e : k = k0
    · subst e; simp at hk'
    · have hk2 : g k = some o' := by simpa [e] using hk'
      obtain ⟨b', r', co', h1, h2, h3⟩ := h.tie k o' hk2
      refine ⟨b', r', co', h1, ?_, h3⟩
      rw [hw.other b' ?_]
      · exact h2
      · intro eb; subst eb
        exact e (h.inj _ _ _ _ _ _ _ hk2 hg h1 hE)

/-- The two functions' numbers; a byte's type; where a builder may lie: in cells of which type, how many, from which cell on. -/
structure Bd where
  cc : FuncId
  st : FuncId
  u8 : TypeId
  ok : TypeId → Nat → Nat → Bool
structure BdOK (P : Program) (B : Bd) : Prop where
  mono : ∀ t n n' o, n ≤ n' → B.ok t n o = true → B.ok t n' o = true
  two : ∀ t n o, B.ok t n o = true → o + 1 < n
  cc0 : ∀ w b o t cs, B.ok t cs.size o = true → w.heap[b]? = some (.cells cs t (0, 0)) → cs[o]? = some (.pointer none) →
    Calls P B.cc #[.pointer (some ⟨b, o, none⟩)] w fun e w' => e = .returned (.tuple #[]) ∧ Turned b (.cells (cs.setIfInBounds o (.pointer (some ⟨b, o, none⟩))) t (0, 0)) w w'
  cc1 : ∀ w b o t cs, B.ok t cs.size o = true → w.heap[b]? = some (.cells cs t (0, 0)) → cs[o]? = some (.pointer (some ⟨b, o, none⟩)) →
    Calls P B.cc #[.pointer (some ⟨b, o, none⟩)] w fun e w' => e = .returned (.tuple #[]) ∧ Turned b (.cells cs t (0, 0)) w w'
  st0 : ∀ w b o t cs c, B.ok t cs.size o = true → w.heap[b]? = some (.cells cs t (0, 0)) → cs[o + 1]? = some (.slice none 0 c) →
    Calls P B.st #[.pointer (some ⟨b, o, none⟩)] w fun e w' => e = .returned (.string ⟨#[]⟩) ∧ Turned b (.cells cs t (0, 0)) w w'
  st1 : ∀ w b o t cs g c ds (l : List UInt8), B.ok t cs.size o = true → w.heap[b]? = some (.cells cs t (0, 0)) → cs[o + 1]? = some (.slice (some ⟨g, 0, none⟩) l.length c) → c ≠ 0 → l ≠ [] → l.length ≤ 1000000 →
    w.heap[g]? = some (.cells ds B.u8 (0, 0)) → l.length ≤ ds.size → (∀ (j : Nat) (x : UInt8), l[j]? = some x → ds[j]? = some (Value.int .u8 x.toNat)) →
    Calls P B.st #[.pointer (some ⟨b, o, none⟩)] w fun e w' => e = .returned (.string ⟨l.toArray⟩) ∧ ∃ co, Turned g co w w'

def ccA (lo : Lim) (B : Bd) : List Value → M I AEnd
  | [.pointer (some ⟨k, o, none⟩)] => rd k >>= fun ob => match ob with
    | .cells as t (0, 0) => bif B.ok t as.size o then match as[o]? with
        | some (.pointer none) => wr lo k (some (.cells (as.setIfInBounds o (.pointer (some ⟨k, o, none⟩))) t (0, 0))) >>= fun _ => pure (.ret (.tuple #[]))
        | some (.pointer (some ⟨k', o', none⟩)) => bif Nat.beq k' k && Nat.beq o' o then pure (.ret (.tuple #[])) else fail
        | _ => fail
      else fail
    | _ => fail
  | _ => fail
def rowByte : Value → Option UInt8
  | .int .u8 n => bif decide (n = (n.toNat.toUInt8.toNat : Int)) then some n.toNat.toUInt8 else none
  | _ => none
def rowBytes : Nat → List Value → Option (List UInt8)
  | 0, _ => some []
  | n + 1, v :: l => match rowByte v, rowBytes n l with
    | some x, some r => some (x :: r)
    | _, _ => none
  | _ + 1, [] => none
theorem rowByte_spec {v : Value} {x : UInt8} (h : rowByte v = some x) : v = .int .u8 x.toNat := by
  unfold rowByte at h
  split at h
  · rename_i n
    cases hb : decide (n = (n.toNat.toUInt8.toNat : Int)) with
    | false => rw [hb] at h; cases h
    | true =>
      rw [hb] at h
      cases h
      rw [decide_eq_true_eq] at hb
      rw [← hb]
  · cases h
theorem rowBytes_spec : ∀ (n : Nat) (vs : List Value) (l : List UInt8), rowBytes n vs = some l → l.length = n ∧ n ≤ vs.length ∧ ∀ (j : Nat) (x : UInt8), l[j]? = some x → vs[j]? = some (Value.int .u8 x.toNat)
  | 0, vs, l, h => by cases h; exact ⟨rfl, Nat.zero_le _, fun j x h => by simp at h⟩
  | n + 1, [], l, h => by cases h
  | n + 1, v :: vs, l, h => by
    simp only [rowBytes] at h
    split at h
    · rename_i x r hx hr
      cases h
      obtain ⟨h1, h2, h3⟩ := rowBytes_spec n vs r hr
      refine ⟨by simp [h1], by simp; omega, fun j y hj => ?_⟩
      rcases j with _ | j
      · simp at hj; subst hj; simp [rowByte_spec hx]
      · simp at hj; simpa using h3 j y hj
    · cases h
def stB (lo : Lim) (B : Bd) (j n c : Nat) : M I AEnd := rd j >>= fun ob => match ob with
  | .cells bs t (0, 0) => bif Nat.beq t B.u8 && !(Nat.beq n 0) && !(Nat.beq c 0) && Nat.ble n 1000000 then match rowBytes n bs.toList with
      | some l => wr lo j none >>= fun _ => pure (.ret (.string ⟨l.toArray⟩))
      | none => fail
    else fail
  | _ => fail
def stA (lo : Lim) (B : Bd) : List Value → M I AEnd
  | [.pointer (some ⟨k, o, none⟩)] => rd k >>= fun ob => match ob with
    | .cells as t (0, 0) => bif B.ok t as.size o then match as[o + 1]? with
        | some (.slice none 0 c) => pure (.ret (.string ⟨#[]⟩))
        | some (.slice (some ⟨j, 0, none⟩) n c) => stB lo B j n c
        | some (.slice (some ⟨j, 0, some 0⟩) n c) => stB lo B j n c
        | _ => fail
      else fail
    | _ => fail
  | _ => fail
def bdHook (lo : Lim) (B : Bd) : Hook I := some fun f args => bif Nat.beq f B.cc then some (ccA lo B args.toList) else bif Nat.beq f B.st then some (stA lo B args.toList) else none

theorem cells_tie {E : Env} {g : Nat → Option Obj} {w : World} (h : Rel P lo w0 E g w) {k : Nat} {as : Array Value} {t : TypeId} (hg : g k = some (.cells as t (0, 0))) :
    ∃ b r cs, E k = some (b, r) ∧ w.heap[b]? = some (.cells cs t (0, 0)) ∧ as.size + r * P.cellsOf t = cs.size ∧ ∀ a c : Value, ∀ j : Nat, as[j]? = some a → cs[j]? = some c → VR E a c := by
  obtain ⟨b, r, co, h1, h2, h3⟩ := h.tie _ _ hg
  cases h3 with
  | cells q1 q2 => exact ⟨b, r, _, h1, h2, q1, q2⟩
theorem at_of_size {as cs : Array Value} {n : Nat} (h : as.size + n = cs.size) {j : Nat} {a : Value} (ha : as[j]? = some a) : ∃ c, cs[j]? = some c := by
  have := (Array.getElem?_eq_some_iff.1 ha).1
  exact ⟨_, Array.getElem?_eq_getElem (by omega)⟩
theorem ARl.one {E : Env} {k o : Nat} {args cargs : Array Value} (h : ARl E args cargs) (he : args.toList = [.pointer (some ⟨k, o, none⟩)]) : ∃ b r, E k = some (b, r) ∧ cargs = #[.pointer (some ⟨b, o, none⟩)] := by
  have hl := h.lst
  rw [he] at hl
  obtain ⟨l1, l2⟩ := hl
  obtain ⟨c, hc⟩ : ∃ c, cargs.toList = [c] := by
    rcases hq : cargs.toList with _ | ⟨c, _ | ⟨d, l⟩⟩
    · rw [hq] at l1; simp at l1
    · exact ⟨c, rfl⟩
    · rw [hq] at l1; simp at l1
  have hv := l2 _ c 0 rfl (by rw [hc]; rfl)
  cases hv with
  | @ptr k o b r hk => exact ⟨b, r, hk, by rw [← Array.toArray_toList (xs := cargs), hc]⟩
theorem cc_ok {B : Bd} (hB : BdOK P B) {args : Array Value} {s s' : St μ} {r : AEnd} (hr : (ccA lo B args.toList : M I AEnd).run s = some (r, s')) {E : Env} {g : Nat → Option Obj} {w : World} {cargs : Array Value}
    (hR : Rel P lo w0 E g w) (hA : Agree I s s' g) (hargs : ARl E args cargs) : Calls P B.cc cargs w fun e w' => ∃ E', Env.Ext E E' s.next s'.next ∧ EnR E' r e ∧ Rel P lo w0 E' (merge I s' g) w' := by
  unfold ccA at hr
  split at hr
  · rename_i k o heq
    obtain ⟨ob, s1, h1, h2⟩ := bind_run hr
    obtain ⟨b, rr, hkb, rfl⟩ := hargs.one heq
    have hle : St.Le I s1 s' := by
      have := M.le _ _ _ _ h2
      exact this
    split at h2
    · rename_i as t
      obtain ⟨e1, e2, e3, e4, e5⟩ := rd_run h1
      cases hok : B.ok t as.size o with
      | false => rw [hok] at h2; exact (fail_run h2).elim
      | true =>
        rw [hok, cond_true] at h2
        have hg : g k = some (.cells as t (0, 0)) := by rw [(hA.first hle) k (by rw [e5, Bool.true_or]), e1]
        obtain ⟨b', r', cs, t1, t2, t3, t4⟩ := cells_tie hR hg
        rw [hkb] at t1
        cases t1
        have hok' := hB.mono _ _ cs.size _ (by omega) hok
        split at h2
        · rename_i hp
          obtain ⟨c, hc⟩ := at_of_size t3 hp
          have hv := t4 _ _ _ hp hc
          cases hv
          obtain ⟨u, s2, h3, h4⟩ := bind_run h2
          obtain ⟨rfl, rfl⟩ := pure_run h4
          obtain ⟨w1', ⟨o0, w2'⟩, w3', w4', w5', w6'⟩ := wr_run h3
          refine (hB.cc0 w b o t cs hok' t2 hc).mono fun e w' ⟨he, hT⟩ => ⟨E, ⟨fun _ _ h => h, fun _ h => .inl h⟩, ?_, ?_⟩
          · subst he; exact .tuple rfl fun a c j ha => by simp at ha
          · have l1 := (rd (I := I) k).le _ _ _ h1
            have l2 := (wr (I := I) lo k (some (.cells (as.setIfInBounds o (.pointer (some ⟨k, o, none⟩))) t (0, 0)))).le _ _ _ h3
            have hm : merge I s1 g = g := merge_read (hA.first l2) (fun k => by rw [e4]) (fun k => by rw [e3])
            have hA1 : Agree I s1 s' g := by have := hA.second l1 l2; rwa [hm] at this
            rw [merge_write hA1 w5' w6']
            refine hR.write hg hkb w1' hT (.cells (by simpa using t3) fun a c j ha hc => ?_)
            rw [Array.getElem?_setIfInBounds] at ha hc
            by_cases ej : o = j
            · subst ej
              rw [if_pos rfl] at ha hc
              split at ha <;> split at hc <;> first | (cases ha; cases hc; exact .ptr hkb) | (cases ha; done) | (cases hc; done)
            · rw [if_neg ej] at ha hc
              exact t4 a c j ha hc
        · rename_i k' o' hp
          cases hq : (Nat.beq k' k && Nat.beq o' o) with
          | false => rw [hq] at h2; exact (fail_run h2).elim
          | true =>
            rw [hq, cond_true] at h2
            obtain ⟨rfl, rfl⟩ := pure_run h2
            rw [Bool.and_eq_true] at hq
            obtain rfl := Nat.eq_of_beq_eq_true hq.1
            obtain rfl := Nat.eq_of_beq_eq_true hq.2
            obtain ⟨c, hc⟩ := at_of_size t3 hp
            have hv := t4 _ _ _ hp hc
            cases hv with
            | ptr hk2 =>
              rw [hkb] at hk2
              cases hk2
              refine (hB.cc1 w b _ t cs hok' t2 hc).mono fun e w' ⟨he, hT⟩ => ⟨E, ⟨fun _ _ h => h, fun _ h => .inl h⟩, ?_, ?_⟩
              · subst he; exact .tuple rfl fun a c j ha => by simp at ha
              · rw [merge_read hA (fun k => by rw [e4]) (fun k => by rw [e3])]
                exact hR.same t2 hT
        · exact (fail_run h2).elim
    · exact (fail_run h2).elim
  · exact (fail_run hr).elim
theorem stB_ok {B : Bd} {j n c : Nat} {s s' : St μ} {r : AEnd} (hr : (stB lo B j n c : M I AEnd).run s = some (r, s')) {E : Env} {g : Nat → Option Obj} {w : World} {f : FuncId} {cargs : Array Value} {gb rj : Nat}
    (hR : Rel P lo w0 E g w) (hA : Agree I s s' g) (hj : E j = some (gb, rj))
    (H : ∀ ds (l : List UInt8), l.length = n → c ≠ 0 → l ≠ [] → l.length ≤ 1000000 → w.heap[gb]? = some (.cells ds B.u8 (0, 0)) → l.length ≤ ds.size → (∀ (j : Nat) (x : UInt8), l[j]? = some x → ds[j]? = some (Value.int .u8 x.toNat)) →
      Calls P f cargs w fun e w' => e = .returned (.string ⟨l.toArray⟩) ∧ ∃ co, Turned gb co w w') :
    Calls P f cargs w fun e w' => ∃ E', Env.Ext E E' s.next s'.next ∧ EnR E' r e ∧ Rel P lo w0 E' (merge I s' g) w' := by
  unfold stB at hr
  obtain ⟨ob, s1, h1, h2⟩ := bind_run hr
  have hle : St.Le I s1 s' := M.le _ _ _ _ h2
  split at h2
  · rename_i bs t
    obtain ⟨e1, e2, e3, e4, e5⟩ := rd_run h1
    cases hq : (Nat.beq t B.u8 && !(Nat.beq n 0) && !(Nat.beq c 0) && Nat.ble n 1000000) with
    | false => rw [hq] at h2; exact (fail_run h2).elim
    | true =>
      rw [hq, cond_true] at h2
      simp only [Bool.and_eq_true, Bool.not_eq_true'] at hq
      obtain ⟨⟨⟨q1, q2⟩, q3⟩, q4⟩ := hq
      obtain rfl := Nat.eq_of_beq_eq_true q1
      have q2' : n ≠ 0 := fun e => by subst e; simp [Nat.beq] at q2
      have q3' : c ≠ 0 := fun e => by subst e; simp [Nat.beq] at q3
      have q4' := Nat.le_of_ble_eq_true q4
      split at h2
      · rename_i l hl
        obtain ⟨u, s2, h3, h4⟩ := bind_run h2
        obtain ⟨rfl, rfl⟩ := pure_run h4
        obtain ⟨b1, b2, b3⟩ := rowBytes_spec _ _ _ hl
        have hg : g j = some (.cells bs B.u8 (0, 0)) := by rw [(hA.first hle) j (by rw [e5, Bool.true_or]), e1]
        obtain ⟨b', r', cs, t1, t2, t3, t4⟩ := cells_tie hR hg
        rw [hj] at t1
        cases t1
        obtain ⟨w1', ⟨o0, w2'⟩, w3', w4', w5', w6'⟩ := wr_run h3
        have hbl : n ≤ bs.size := by simpa using b2
        refine (H cs l b1 q3' (by intro e; subst e; simp at b1; omega) (by omega) t2 (by omega) fun i x hx => ?_).mono fun e w' ⟨he, co, hT⟩ => ⟨E, ⟨fun _ _ h => h, fun _ h => .inl h⟩, ?_, ?_⟩
        · have h5 := b3 i x hx
          have h6 : bs[i]? = some (.int .u8 x.toNat) := by rw [← Array.getElem?_toList]; exact h5
          obtain ⟨cv, hcv⟩ := at_of_size t3 h6
          have := t4 _ _ _ h6 hcv
          cases this
          exact hcv
        · subst he; exact .string _
        · have l1 := (rd (I := I) j).le _ _ _ h1
          have l2 := (wr (I := I) lo j none).le _ _ _ h3
          have hm : merge I s1 g = g := merge_read (hA.first l2) (fun k => by rw [e4]) (fun k => by rw [e3])
          have hA1 : Agree I s1 s' g := by have := hA.second l1 l2; rwa [hm] at this
          rw [merge_write hA1 w5' w6']
          exact hR.lose hg hj w1' hT
      · exact (fail_run h2).elim
  · exact (fail_run h2).elim
theorem st_ok {B : Bd} (hB : BdOK P B) {args : Array Value} {s s' : St μ} {r : AEnd} (hr : (stA lo B args.toList : M I AEnd).run s = some (r, s')) {E : Env} {g : Nat → Option Obj} {w : World} {cargs : Array Value}
    (hR : Rel P lo w0 E g w) (hA : Agree I s s' g) (hargs : ARl E args cargs) : Calls P B.st cargs w fun e w' => ∃ E', Env.Ext E E' s.next s'.next ∧ EnR E' r e ∧ Rel P lo w0 E' (merge I s' g) w' := by
  unfold stA at hr
  split at hr
  · rename_i k o heq
    obtain ⟨ob, s1, h1, h2⟩ := bind_run hr
    obtain ⟨b, rr, hkb, rfl⟩ := hargs.one heq
    have hle : St.Le I s1 s' := M.le _ _ _ _ h2
    split at h2
    · rename_i as t
      obtain ⟨e1, e2, e3, e4, e5⟩ := rd_run h1
      cases hok : B.ok t as.size o with
      | false => rw [hok] at h2; exact (fail_run h2).elim
      | true =>
        rw [hok, cond_true] at h2
        have hg : g k = some (.cells as t (0, 0)) := by rw [(hA.first hle) k (by rw [e5, Bool.true_or]), e1]
        obtain ⟨b', r', cs, t1, t2, t3, t4⟩ := cells_tie hR hg
        rw [hkb] at t1
        cases t1
        have hok' := hB.mono _ _ cs.size _ (by omega) hok
        have l1 := (rd (I := I) k).le _ _ _ h1
        have hm : merge I s1 g = g := merge_read (hA.first hle) (fun k => by rw [e4]) (fun k => by rw [e3])
        have hA1 : Agree I s1 s' g := by have := hA.second l1 hle; rwa [hm] at this
        split at h2
        · rename_i c hp
          obtain ⟨cv, hc⟩ := at_of_size t3 hp
          have hv := t4 _ _ _ hp hc
          cases hv
          obtain ⟨rfl, rfl⟩ := pure_run h2
          refine (hB.st0 w b o t cs _ hok' t2 hc).mono fun e w' ⟨he, hT⟩ => ⟨E, ⟨fun _ _ h => h, fun _ h => .inl h⟩, ?_, ?_⟩
          · subst he; exact .string _
          · rw [hm]
            exact hR.same t2 hT
        · rename_i j n c hp
          obtain ⟨cv, hc⟩ := at_of_size t3 hp
          have hv := t4 _ _ _ hp hc
          cases hv with
          | @slice _ _ gb rj _ _ hj =>
            have := stB_ok (f := B.st) (cargs := #[.pointer (some ⟨b, o, none⟩)]) h2 hR hA1 hj fun ds l a1 a2 a3 a4 a5 a6 a7 => hB.st1 w b o t cs gb c ds l hok' t2 (by rw [a1]; exact hc) a2 a3 a4 a5 a6 a7
            rw [e2] at this
            exact this
        · rename_i j n c hp
          obtain ⟨cv, hc⟩ := at_of_size t3 hp
          have hv := t4 _ _ _ hp hc
          cases hv with
          | @wide _ _ gb rj _ _ hj =>
            have := stB_ok (f := B.st) (cargs := #[.pointer (some ⟨b, o, none⟩)]) h2 hR hA1 hj fun ds l a1 a2 a3 a4 a5 a6 a7 => hB.st1 w b o t cs gb (c + rj) ds l hok' t2 (by rw [a1]; exact hc) (by omega) a3 a4 a5 a6 a7
            rw [e2] at this
            exact this
        · exact (fail_run h2).elim
    · exact (fail_run h2).elim
  · exact (fail_run hr).elim
theorem bd_ok {B : Bd} (hB : BdOK P B) : HookOK P lo w0 (bdHook lo B : Hook I) := by
  intro h hh f args m hm s r s' hr E g w cargs hR hA hF hargs
  cases hh
  simp only at hm
  cases h1 : Nat.beq f B.cc with
  | true =>
    rw [h1, cond_true] at hm
    cases hm
    obtain rfl := Nat.eq_of_beq_eq_true h1
    exact cc_ok hB hr hR hA hargs
  | false =>
    rw [h1, cond_false] at hm
    cases h2 : Nat.beq f B.st with
    | true =>
      rw [h2, cond_true] at hm
      cases hm
      obtain rfl := Nat.eq_of_beq_eq_true h2
      exact st_ok hB hr hR hA hargs
    | false => rw [h2, cond_false] at hm; cases hm
noncomputable def runsB (P : Program) (X : Hk) (B : Bd) (n : Nat) (f : FuncId) (args : Array Value) (p : Value → Bool) : Bool := match ((evalD (I := trieI) P X ⟨0, 0⟩ (bdHook ⟨0, 0⟩ B) n).call f args).run (st0 0) with
  | some (.ret v, _) => p v
  | _ => false
/-- A call on plain values alone, run by the kernel, builders and all: so it comes on every tape, in every memory. -/
theorem runsB_calls (hm : P.follows .mixedOrders = true) {X : Hk} (w : World) (H : Plain P X w) {B : Bd} (hB : BdOK P B) {n : Nat} {f : FuncId} {args : Array Value} {p : Value → Bool} (h : runsB P X B n f args p = true) (hg : args.toList.all (gnd 3) = true) :
    Calls P f args w fun e w' => ∃ (v v' : Value) (E : Env), p v = true ∧ e = .returned v' ∧ VR E v v' ∧ Below w.heap.size w w' := by
  unfold runsB at h
  split at h
  · rename_i v s' hr
    have hR : Rel P ⟨0, 0⟩ ⟨w, fun _ => none⟩ (fun _ => none) (fun _ => none) w := ⟨Below.refl _ _, (fun k o h => by cases h), (fun k k' o o' b r r' h => by cases h), (fun k b r _ h => by cases h), (fun k h => absurd h (Nat.not_lt_zero k)), (fun k x h => by cases h)⟩
    have hself : ARl (fun _ => none) args args := ⟨rfl, fun a c j ha hc => by rw [ha] at hc; cases hc; exact gnd_refl _ 3 a (all_getElem? hg ha)⟩
    have := (evalD_ok (I := trieI) (lo := ⟨0, 0⟩) (w0 := ⟨w, fun _ => none⟩) hm H (K := bdHook ⟨0, 0⟩ B) (bd_ok hB) n).2 f args (st0 0) (.ret v) s' hr (fun _ => none) (fun _ => none) w args hR (fun k hk => rfl) (fun k _ _ => rfl) hself
    refine this.mono fun e w' ⟨E, _, he, hR'⟩ => ?_
    cases e with
    | returned v' => exact ⟨v, v', E, h, rfl, he, hR'.below⟩
    | panicked c => exact he.elim
    | outgrown => exact he.elim
  · cases h
end Go.Am
