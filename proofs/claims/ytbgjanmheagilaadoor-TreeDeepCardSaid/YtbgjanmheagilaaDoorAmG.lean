/- The abstract evaluator: copy, len, maps, texts. Conditions: none. -/
import Derived.Test.YtbgjanmheagilaaDoorAmF
import Derived.Laws.BytesString
import Derived.Laws.RangeAny
import Derived.Laws.RangeString
namespace Go.Am
open Go Go.RowKit
set_option linter.unusedVariables false
set_option linter.unusedSimpArgs false
variable {μ : Type} {I : MemI μ} {P : Program} {lo : Lim} {w0 : Bs} {E : Env} {H : (Nat → Option Obj) → Prop}

def copyA (P : Program) (lo : Lim) (dT : TypeId) (d x : Value) : M I Value := match P.underlying dT, d, lenS x with
  | some (.slice e), .slice (some a) dl _, some sl => match P.info? e with
    | some ie => srcA ie.size (Nat.min sl dl) x >>= fun news => putA lo a.block a.off news >>= fun _ => pure (.int .i64 (Nat.min sl dl))
    | none => fail
  | _, _, _ => fail
theorem sim_copyA {dT sT ty : TypeId} {d d' x x' : Value} (hd : VR E d d') (hx : VR E x x') : Sim P lo w0 E noH (copyA P lo dT d x : M I Value) (Builtin.copy_ #[dT, sT] ty #[d', x']) VR := by
  unfold copyA
  split
  · rename_i e a dl dc sl hu hl
    split
    · rename_i ie hie
      refine sim_src fun news => Sim.point fun E1 g w hE hR ⟨_, hH⟩ => ?_
      obtain ⟨news', hn, hln, _⟩ := hH.run hR (hx.mono hE) rfl
      have hlen := lenS_run (P := P) hl (hx.mono hE) w
      have hrun : ∀ (b o cp : Nat), (Builtin.copy_ #[dT, sT] ty #[.slice (some ⟨b, o, none⟩) dl cp, x']).run P w = (storeCells ⟨b, o, none⟩ news' >>= fun _ => pure (.int .i64 (Nat.min sl dl)) : Sem Value).run P w := fun b o cp => by
        simp [Builtin.copy_, run_underlying hu, hlen, sizeOf, typeInfo, hie, hn, goInt]
      cases hd with
      | @slice k o b r _ _ hk => exact ⟨_, hrun b o _, Sim.bind (sim_putA (hE _ _ hk) hln.1 hln.2) fun E2 _ _ hE2 _ => Sim.pure fun E3 hE3 => .int _ _⟩
      | @wide k o b r _ _ hk => exact ⟨_, hrun b o _, Sim.bind (sim_putA (hE _ _ hk) hln.1 hln.2) fun E2 _ _ hE2 _ => Sim.pure fun E3 hE3 => .int _ _⟩
    · exact Sim.fail
  · exact Sim.fail

/-! ### Maps -/
def nowIx (kind : TypeDesc) (k : Value) : List MapEntry → Nat → Option (Option Nat)
  | [], _ => some none
  | e :: es, i => match Instr.sameNow kind k e.key with
    | some true => some (some i)
    | some false => nowIx kind k es (i + 1)
    | none => none
def askIx (P : Program) (t : TypeId) (k : Value) : List MapEntry → Nat → Option (Option Nat)
  | [], _ => some none
  | e :: es, i => match pureRun P (Op.equal t k e.key) with
    | some true => some (some i)
    | some false => askIx P t k es (i + 1)
    | none => none
def KeysEq : List MapEntry → List MapEntry → Prop
  | [], [] => True
  | a :: as, c :: cs => c.key = a.key ∧ KeysEq as cs
  | _, _ => False
theorem findNow_ix (kind : TypeDesc) (k : Value) : ∀ (es es' : List MapEntry) (i : Nat), KeysEq es es' →
    match nowIx kind k es i with
    | none => Instr.findNow kind k es' i = none
    | some none => Instr.findNow kind k es' i = some none
    | some (some j) => i ≤ j ∧ ∃ e', es'[j - i]? = some e' ∧ Instr.findNow kind k es' i = some (some (j, e'.val))
  | [], [], i, _ => by simp [nowIx, Instr.findNow]
  | e :: es, e' :: es', i, h => by
    obtain ⟨h1, h2⟩ := h
    have ih := findNow_ix kind k es es' (i + 1) h2
    simp only [nowIx, Instr.findNow, h1]
    cases Instr.sameNow kind k e.key with
    | none => simp
    | some b =>
      cases b with
      | true => simp
      | false =>
        simp only
        cases hq : nowIx kind k es (i + 1) with
        | none => rw [hq] at ih; exact ih
        | some r =>
          cases r with
          | none => rw [hq] at ih; exact ih
          | some j =>
            rw [hq] at ih
            obtain ⟨a1, e2, a2, a3⟩ := ih
            refine ⟨by omega, e2, ?_, a3⟩
            rw [show j - i = (j - (i + 1)) + 1 by omega]; simpa using a2
  | [], _ :: _, _, h => h.elim
  | _ :: _, [], _, h => h.elim
theorem findAsk_ix (t : TypeId) (k : Value) (w : World) : ∀ (es es' : List MapEntry) (i : Nat), KeysEq es es' →
    match askIx P t k es i with
    | none => True
    | some none => (Instr.findAsking t k es' i).run P w = .ok none w
    | some (some j) => i ≤ j ∧ ∃ e', es'[j - i]? = some e' ∧ (Instr.findAsking t k es' i).run P w = .ok (some (j, e'.val)) w
  | [], [], i, _ => by simp [askIx, Instr.findAsking]
  | e :: es, e' :: es', i, h => by
    obtain ⟨h1, h2⟩ := h
    have ih := findAsk_ix t k w es es' (i + 1) h2
    simp only [askIx]
    cases hp : pureRun P (Op.equal t k e.key) with
    | none => simp
    | some b =>
      have hr := pureRun_run hp w
      cases b with
      | true => simp [Instr.findAsking, h1, hr]
      | false =>
        simp only
        cases hq : askIx P t k es (i + 1) with
        | none => trivial
        | some r =>
          cases r with
          | none => rw [hq] at ih; simp [Instr.findAsking, h1, hr, ih]
          | some j =>
            rw [hq] at ih
            obtain ⟨a1, e2, a2, a3⟩ := ih
            refine ⟨by omega, e2, ?_, by simp [Instr.findAsking, h1, hr, a3]⟩
            rw [show j - i = (j - (i + 1)) + 1 by omega]; simpa using a2
  | [], _ :: _, _, h => h.elim
  | _ :: _, [], _, h => h.elim

def findA (P : Program) (t : TypeId) (k : Value) (es : List MapEntry) : Option (Option Nat) := match P.underlying t with
  | some d => match nowIx d k es 0 with
    | some r => some r
    | none => askIx P t k es 0
  | none => none
theorem findA_none {t : TypeId} {k : Value} {es es' : List MapEntry} (h : findA P t k es = some none) (hk : KeysEq es es') (w : World) : (Instr.findKey t k es').run P w = .ok none w := by
  unfold findA at h
  split at h
  · rename_i d hd
    have h1 := findNow_ix d k es es' 0 hk
    have h2 := findAsk_ix (P := P) t k w es es' 0 hk
    split at h
    · rename_i r hr
      cases h
      rw [hr] at h1
      simp [Instr.findKey, run_underlying hd, h1]
    · rename_i hr
      rw [hr] at h1
      rw [h] at h2
      simp [Instr.findKey, run_underlying hd, h1, h2]
  · cases h
theorem findA_some {t : TypeId} {k : Value} {es es' : List MapEntry} {j : Nat} (h : findA P t k es = some (some j)) (hk : KeysEq es es') (w : World) : ∃ e', es'[j]? = some e' ∧ (Instr.findKey t k es').run P w = .ok (some (j, e'.val)) w := by
  unfold findA at h
  split at h
  · rename_i d hd
    have h1 := findNow_ix d k es es' 0 hk
    have h2 := findAsk_ix (P := P) t k w es es' 0 hk
    split at h
    · rename_i r hr
      cases h
      rw [hr] at h1
      obtain ⟨_, e', a1, a2⟩ := h1
      exact ⟨e', by simpa using a1, by simp [Instr.findKey, run_underlying hd, a2]⟩
    · rename_i hr
      rw [hr] at h1
      rw [h] at h2
      obtain ⟨_, e', a1, a2⟩ := h2
      exact ⟨e', by simpa using a1, by simp [Instr.findKey, run_underlying hd, h1, a2]⟩
  · cases h
theorem keysEq_of : ∀ (es cs : List MapEntry), es.length = cs.length → (∀ a c : MapEntry, ∀ j : Nat, es[j]? = some a → cs[j]? = some c → c.key = a.key) → KeysEq es cs
  | [], [], _, _ => trivial
  | a :: as, c :: cs, hl, h => ⟨h a c 0 rfl rfl, keysEq_of as cs (by simpa using hl) fun x y j hx hy => h x y (j + 1) (by simpa using hx) (by simpa using hy)⟩
  | [], _ :: _, hl, _ => by simp at hl
  | _ :: _, [], hl, _ => by simp at hl

def keyOK (P : Program) (empty : Bool) (t : TypeId) (k : Value) : Bool := gnd 3 k && (pureRun P (Instr.checkKey empty 10000 t k)).isSome
theorem keyOK_run {empty : Bool} {t : TypeId} {k : Value} (h : keyOK P empty t k = true) (w : World) : gnd 3 k = true ∧ (Instr.checkKey empty 10000 t k).run P w = .ok () w := by
  unfold keyOK at h
  simp only [Bool.and_eq_true] at h
  obtain ⟨h1, h2⟩ := h
  obtain ⟨u, hu⟩ := Option.isSome_iff_exists.1 h2
  exact ⟨h1, pureRun_run hu w⟩

theorem Rel.amap {g : Nat → Option Obj} {w : World} (h : Rel P lo w0 E g w) {k clock : Nat} {es : Array MapEntry} (hg : g k = some (.map es clock)) {b r : Nat} (hE : E k = some (b, r)) :
    ∃ cs, w.heap[b]? = some (.map cs clock) ∧ es.size = cs.size ∧ ∀ a c : MapEntry, ∀ j : Nat, es[j]? = some a → cs[j]? = some c → c.key = a.key ∧ c.born = a.born ∧ VR E a.val c.val := by
  obtain ⟨b', r', co, h1, h2, h3⟩ := h.tie k _ hg
  rw [h1] at hE; cases hE
  cases h3 with
  | map clock hs hv => exact ⟨_, h2, hs, hv⟩
theorem run_getObj_map' {w : World} {b clock : Nat} {cs : Array MapEntry} (h : w.heap[b]? = some (.map cs clock)) : (getObj b).run P w = .ok (.map cs clock) w := by
  simp [getObj, Sem.run, h]
theorem run_setObj_map' {w : World} {b clock clock' : Nat} {cs cs' : Array MapEntry} (h : w.heap[b]? = some (.map cs clock)) : (setObj b (.map cs' clock')).run P w = .ok () { w with heap := w.heap.setIfInBounds b (.map cs' clock') } := by
  simp [setObj, Sem.run, h]
theorem turned_setObj {w : World} {b : Nat} {o o' : Obj} (h : w.heap[b]? = some o) : Turned b o' w { w with heap := w.heap.setIfInBounds b o' } := by
  have hb := (Array.getElem?_eq_some_iff.1 h).1
  exact ⟨rfl, rfl, rfl, by simp, by simp [hb], fun i hi => by simp [Array.getElem?_setIfInBounds, Ne.symm hi]⟩

def lookupA (P : Program) (t : TypeId) (x k : Value) (ok : Bool) : M I Value := match P.underlying t, x with
  | some (.map kt et), .map none => bif keyOK P true kt k then match findA P kt k [], zeroOf P et with
      | some none, some z => pure (bif ok then .tuple #[z, .bool false] else z)
      | _, _ => fail
    else fail
  | some (.map kt et), .map (some n) => rd n >>= fun ob => match ob with
    | .map es _ => bif keyOK P es.isEmpty kt k then match findA P kt k es.toList with
        | some (some j) => match es[j]? with
          | some e => pure (bif ok then .tuple #[e.val, .bool true] else e.val)
          | none => fail
        | some none => match zeroOf P et with
          | some z => pure (bif ok then .tuple #[z, .bool false] else z)
          | none => fail
        | none => fail
      else fail
    | _ => fail
  | _, _ => fail
theorem sim_lookupA {t : TypeId} {x k x' k' : Value} {ok : Bool} (hx : VR E x x') (hk : VR E k k') : Sim P lo w0 E H (lookupA P t x k ok : M I Value) (Instr.lookup t x' k' ok) VR := by
  unfold lookupA
  split
  · rename_i kt et hu
    cases hx
    cases hc : keyOK P true kt k with
    | false => exact Sim.fail
    | true =>
      simp only [cond_true]
      split
      · rename_i z hf hz
        have hg := (keyOK_run hc default).1
        have := gnd_eq hk 3 hg
        subst this
        have hzg := gnd_refl E 3 z (zeroOf_run hz default).2
        have hr := findA_none (es' := []) hf trivial
        cases ok with
        | true => exact Sim.val ⟨.tuple #[z, .bool false], fun w => by simp [Instr.lookup, run_underlying hu, (keyOK_run hc w).2, hr, (zeroOf_run hz w).1], VR.pair hzg (.bool false)⟩
        | false => exact Sim.val ⟨z, fun w => by simp [Instr.lookup, run_underlying hu, (keyOK_run hc w).2, hr, (zeroOf_run hz w).1], hzg⟩
      · exact Sim.fail
  · rename_i kt et n hu
    cases hx with
    | map hn =>
      refine Sim.rd fun ob => ?_
      cases ob with
      | map es clock =>
        cases hc : keyOK P es.isEmpty kt k with
        | false => simp only [hc]; exact Sim.fail
        | true =>
          simp only [hc, cond_true]
          have hg := (keyOK_run hc default).1
          have := gnd_eq hk 3 hg
          subst this
          split
          · rename_i j hf
            split
            · rename_i e he
              refine Sim.leaf fun E1 g w hE hR ⟨_, hgn⟩ => ?_
              obtain ⟨cs, h1, h2, h3⟩ := hR.amap hgn (hE _ _ hn)
              have hke := keysEq_of es.toList cs.toList (by simpa using h2) fun a c j ha hc' => (h3 a c j (by simpa using ha) (by simpa using hc')).1
              obtain ⟨e', he', hr⟩ := findA_some hf hke w
              have hv := (h3 e e' j he (by simpa using he')).2.2
              have hemp : cs.isEmpty = es.isEmpty := by simp [Array.isEmpty, h2]
              cases ok with
              | true => exact ⟨.tuple #[e'.val, .bool true], by simp [Instr.lookup, run_underlying hu, run_getObj_map' h1, hemp, (keyOK_run hc w).2, hr], VR.pair hv (.bool true)⟩
              | false => exact ⟨e'.val, by simp [Instr.lookup, run_underlying hu, run_getObj_map' h1, hemp, (keyOK_run hc w).2, hr], hv⟩
            · exact Sim.fail
          · rename_i hf
            split
            · rename_i z hz
              refine Sim.leaf fun E1 g w hE hR ⟨_, hgn⟩ => ?_
              obtain ⟨cs, h1, h2, h3⟩ := hR.amap hgn (hE _ _ hn)
              have hke := keysEq_of es.toList cs.toList (by simpa using h2) fun a c j ha hc' => (h3 a c j (by simpa using ha) (by simpa using hc')).1
              have hr := findA_none hf hke w
              have hemp : cs.isEmpty = es.isEmpty := by simp [Array.isEmpty, h2]
              have hzg := gnd_refl E1 3 z (zeroOf_run hz default).2
              cases ok with
              | true => exact ⟨.tuple #[z, .bool false], by simp [Instr.lookup, run_underlying hu, run_getObj_map' h1, hemp, (keyOK_run hc w).2, hr, (zeroOf_run hz w).1], VR.pair hzg (.bool false)⟩
              | false => exact ⟨z, by simp [Instr.lookup, run_underlying hu, run_getObj_map' h1, hemp, (keyOK_run hc w).2, hr, (zeroOf_run hz w).1], hzg⟩
            · exact Sim.fail
          · exact Sim.fail
      | _ => exact Sim.fail
  · exact Sim.fail

def updateA (P : Program) (lo : Lim) (t : TypeId) (x k v : Value) : M I Unit := match P.underlying t, x with
  | some (.map kt et), .map (some n) => rd n >>= fun ob => match ob with
    | .map es clock => bif keyOK P false kt k then match findA P kt k es.toList with
        | some (some j) => match es[j]? with
          | some e => bif Instr.sameBits 10000 e.key k then wr lo n (some (.map (es.setIfInBounds j ⟨k, v, e.born⟩) clock)) >>= fun _ => pure () else fail
          | none => fail
        | some none => wr lo n (some (.map (es.push ⟨k, v, clock⟩) (clock + 1))) >>= fun _ => pure ()
        | none => fail
      else fail
    | _ => fail
  | _, _ => fail
theorem sim_updateA {t : TypeId} {x k v x' k' v' : Value} (hx : VR E x x') (hk : VR E k k') (hv : VR E v v') : Sim P lo w0 E H (updateA P lo t x k v : M I Unit) (Instr.mapUpdate t x' k' v') (fun _ _ _ => True) := by
  unfold updateA
  split
  · rename_i kt et n hu
    cases hx with
    | map hn =>
      refine Sim.rd fun ob => ?_
      cases ob with
      | map es clock =>
        cases hc : keyOK P false kt k with
        | false => simp only [hc]; exact Sim.fail
        | true =>
          simp only [hc, cond_true]
          have hg := (keyOK_run hc default).1
          have := gnd_eq hk 3 hg
          subst this
          split
          · rename_i j hf
            split
            · rename_i e he
              cases hsb : Instr.sameBits 10000 e.key k' with
              | false => exact Sim.fail
              | true =>
                refine Sim.wr fun E1 g w hE hR ⟨_, hgn⟩ o0 hg0 hlo => ?_
                obtain ⟨cs, h1, h2, h3⟩ := hR.amap hgn (hE _ _ hn)
                have hke := keysEq_of es.toList cs.toList (by simpa using h2) fun a c j ha hc' => (h3 a c j (by simpa using ha) (by simpa using hc')).1
                obtain ⟨e', he', hr⟩ := findA_some hf hke w
                have he'' : cs[j]? = some e' := by simpa using he'
                have hee := h3 e e' j he he''
                have hkeep : (Instr.keyThatStays (((cs[j]?).map (·.key)).getD k') k').run P w = .ok k' w := by
                  simp [he'', hee.1, Instr.keyThatStays, hsb]
                have hmod : cs.modify j (fun e => { e with key := k', val := v' }) = cs.setIfInBounds j ⟨k', v', e'.born⟩ := by
                  apply Array.ext_getElem?
                  intro i
                  rw [Array.getElem?_modify, Array.getElem?_setIfInBounds]
                  by_cases e1 : j = i
                  · subst e1
                    obtain ⟨h7, h8⟩ := Array.getElem?_eq_some_iff.1 he''
                    simp [h7, h8]
                  · simp [e1]
                refine ⟨(), _, _, _, _, ?_, hE _ _ hn, turned_setObj (o' := .map (cs.setIfInBounds j ⟨k', v', e'.born⟩) clock) h1, .map clock (by simpa using h2) fun a c i ha hc' => ?_, trivial⟩
                · simp only [Instr.mapUpdate, Sem.run_bind, run_underlying hu, Result.andThen_ok, run_getObj_map' h1, (keyOK_run hc w).2, hr, hkeep, hmod, run_setObj_map' h1]
                · rw [Array.getElem?_setIfInBounds] at ha hc'
                  by_cases e1 : j = i
                  · subst e1
                    simp only [if_true] at ha hc'
                    split at ha <;> split at hc' <;> first | (cases ha; done) | (cases hc'; done) | skip
                    cases ha; cases hc'
                    exact ⟨rfl, hee.2.1, hv.mono hE⟩
                  · rw [if_neg e1] at ha hc'
                    exact h3 a c i ha hc'
            · exact Sim.fail
          · rename_i hf
            refine Sim.wr fun E1 g w hE hR ⟨_, hgn⟩ o0 hg0 hlo => ?_
            obtain ⟨cs, h1, h2, h3⟩ := hR.amap hgn (hE _ _ hn)
            have hke := keysEq_of es.toList cs.toList (by simpa using h2) fun a c j ha hc' => (h3 a c j (by simpa using ha) (by simpa using hc')).1
            have hr := findA_none hf hke w
            refine ⟨(), _, _, _, _, ?_, hE _ _ hn, turned_setObj (o' := .map (cs.push ⟨k', v', clock⟩) (clock + 1)) h1, .map _ (by simp [h2]) fun a c i ha hc' => ?_, trivial⟩
            · simp only [Instr.mapUpdate, Sem.run_bind, run_underlying hu, Result.andThen_ok, run_getObj_map' h1, (keyOK_run hc w).2, hr, run_setObj_map' h1]
            · rw [Array.getElem?_push] at ha hc'
              rw [← h2] at hc'
              by_cases e1 : i = es.size
              · rw [if_pos e1] at ha hc'
                cases ha; cases hc'
                exact ⟨rfl, rfl, hv.mono hE⟩
              · rw [if_neg e1] at ha hc'
                exact h3 a c i ha hc'
          · exact Sim.fail
      | _ => exact Sim.fail
    | _ => exact Sim.fail
  · exact Sim.fail

/-! ### Lengths -/
def lenA (P : Program) (t : TypeId) (x : Value) : M I Value := match P.underlying t, x with
  | some .string, .string s => pure (.int .i64 s.size)
  | some (.array n _), _ => pure (.int .i64 n)
  | some (.slice _), .slice _ n _ => pure (.int .i64 n)
  | some (.map _ _), .map none => pure (.int .i64 0)
  | some (.map _ _), .map (some k) => rd k >>= fun ob => match ob with
    | .map es _ => pure (.int .i64 es.size)
    | _ => fail
  | _, _ => fail
theorem sim_lenA {ts : Array TypeId} {t ty : TypeId} {x x' : Value} (ht : ts[0]? = some t) (hx : VR E x x') : Sim P lo w0 E H (lenA P t x : M I Value) (Builtin.len_ ts ty #[x']) VR := by
  unfold lenA
  split
  · rename_i s hu
    cases hx
    exact Sim.val ⟨_, fun w => by simp [Builtin.len_, ht, run_underlying hu, goInt], .int _ _⟩
  · rename_i n e hu
    exact Sim.val ⟨_, fun w => by simp [Builtin.len_, ht, run_underlying hu, goInt], .int _ _⟩
  · rename_i e a n c hu
    cases hx <;> exact Sim.val ⟨_, fun w => by simp [Builtin.len_, ht, run_underlying hu, goInt], .int _ _⟩
  · rename_i k e hu
    cases hx
    exact Sim.val ⟨_, fun w => by simp [Builtin.len_, ht, run_underlying hu, goInt], .int _ _⟩
  · rename_i k e n hu
    cases hx with
    | map hn =>
      refine Sim.rd fun ob => ?_
      cases ob with
      | map es clock =>
        refine Sim.leaf fun E1 g w hE hR ⟨_, hgn⟩ => ?_
        obtain ⟨cs, h1, h2, h3⟩ := hR.amap hgn (hE _ _ hn)
        exact ⟨_, by simp [Builtin.len_, ht, run_underlying hu, run_getObj_map' h1, goInt, ← h2], .int _ _⟩
      | _ => exact Sim.fail
  · exact Sim.fail
/-- The capacity, where nothing is left open. -/
def capA (P : Program) (t : TypeId) (x : Value) : M I Value := match P.underlying t, x with
  | some (.slice _), .slice none _ c => pure (.int .i64 c)
  | some (.slice _), .slice (some ⟨_, _, none⟩) _ c => pure (.int .i64 c)
  | _, _ => fail
theorem sim_capA {ts : Array TypeId} {t ty : TypeId} {x x' : Value} (ht : ts[0]? = some t) (hx : VR E x x') : Sim P lo w0 E H (capA P t x : M I Value) (Builtin.cap_ ts ty #[x']) VR := by
  unfold capA
  split
  · rename_i e n c hu
    cases hx
    exact Sim.val ⟨_, fun w => by simp [Builtin.cap_, ht, run_underlying hu, goInt], .int _ _⟩
  · rename_i e k o n c hu
    cases hx
    exact Sim.val ⟨_, fun w => by simp [Builtin.cap_, ht, run_underlying hu, goInt], .int _ _⟩
  · exact Sim.fail

/-! ### Ranges over texts -/
def rangeA (P : Program) (t : TypeId) (x : Value) : M I Value := match P.underlying t, x with
  | some .string, .string s => new (.stringIter s 0) >>= fun k => pure (.pointer (some ⟨k, 0, none⟩))
  | _, _ => fail
theorem sim_rangeA {t : TypeId} {x x' : Value} (hx : VR E x x') : Sim P lo w0 E H (rangeA P t x : M I Value) (Instr.range t x') VR := by
  unfold rangeA
  split
  · rename_i s hu
    cases hx
    exact Sim.new fun E1 g w k hE hR _ hk => ⟨_, _, 0, _, run_range_string w t s hu, hR.alloc _, alloc_heap w _, fun i hi => Below.heap_alloc w _ i hi, .iter s 0, .ptr (r := 0) (by simp [Env.put])⟩
  · exact Sim.fail
theorem blt_eq (a b : Nat) : Nat.blt a b = decide (a < b) := by
  rw [Bool.eq_iff_iff, decide_eq_true_eq, show Nat.blt a b = Nat.ble (a + 1) b from rfl, Nat.ble_eq]
  exact Iff.rfl
def nextA (lo : Lim) (x : Value) (isS : Bool) : M I Value := match x, isS with
  | .pointer (some ⟨k, 0, none⟩), true => rd k >>= fun ob => match ob with
    | .stringIter s p => bif Nat.blt p s.size then match Utf8.decode s p with
        | (c, wd) => wr lo k (some (.stringIter s (p + wd))) >>= fun _ => pure (.tuple #[.bool true, .int .i64 p, .int .i32 c])
      else pure (.tuple #[.bool false])
    | _ => fail
  | _, _ => fail
theorem Rel.iter {g : Nat → Option Obj} {w : World} (h : Rel P lo w0 E g w) {k p : Nat} {s : ByteArray} (hg : g k = some (.stringIter s p)) {b r : Nat} (hE : E k = some (b, r)) : w.heap[b]? = some (.stringIter s p) := by
  obtain ⟨b', r', co, h1, h2, h3⟩ := h.tie k _ hg
  rw [h1] at hE; cases hE
  cases h3
  exact h2
theorem sim_nextA {x x' : Value} {isS : Bool} {ty : TypeId} (hx : VR E x x') : Sim P lo w0 E H (nextA lo x isS : M I Value) (Instr.next x' isS ty) VR := by
  unfold nextA
  split
  · rename_i k
    cases hx with
    | ptr hk =>
      refine Sim.rd fun ob => ?_
      cases ob with
      | stringIter s p =>
        cases hb : Nat.blt p s.size with
        | true =>
          have hlt : p < s.size := by rw [blt_eq] at hb; simpa using hb
          simp only [hb, cond_true]
          generalize hd : Utf8.decode s p = cw
          obtain ⟨c, wd⟩ := cw
          simp only
          refine Sim.wr fun E1 g w hE hR ⟨_, hg⟩ o0 hg0 hlo => ?_
          have h1 := hR.iter hg (hE _ _ hk)
          refine ⟨_, _, _, _, _, ?_, hE _ _ hk, turned_setObj (o' := .stringIter s (p + wd)) h1, .iter _ _, .tuple rfl fun a v j ha hv => ?_⟩
          · simp [Instr.next, getObj, setObj, Sem.run, h1, hlt, hd, goInt]
          · have : gnd 0 a = true := by
              rcases j with _ | _ | _ | j <;> simp at ha <;> subst ha <;> rfl
            rw [ha] at hv; cases hv
            exact gnd_refl _ 0 a this
        | false =>
          have hlt : ¬ p < s.size := by rw [blt_eq] at hb; simpa using hb
          simp only [hb, cond_false]
          refine Sim.leaf fun E1 g w hE hR ⟨_, hg⟩ => ?_
          have h1 := hR.iter hg (hE _ _ hk)
          exact ⟨_, by simp [Instr.next, getObj, Sem.run, h1, hlt], gnd_refl _ 1 _ rfl⟩
      | _ => exact Sim.fail
  · exact Sim.fail

/-! ### Bytes as a text -/
def bytesOf : List Value → Option (List UInt8)
  | [] => some []
  | .int .u8 n :: l => match bytesOf l with
    | some r => some (UInt8.ofNat n.toNat :: r)
    | none => none
  | _ :: _ => none
/-- ==, != where one side is nil. -/
def eqNil (P : Program) (t : TypeId) (x y : Value) : Option Bool := match P.underlying t, x, y with
  | some (.slice _), .slice none _ _, .slice b _ _ => some b.isNone
  | some (.slice _), .slice (some _) _ _, .slice none _ _ => some false
  | some (.map _ _), .map none, .map b => some b.isNone
  | some (.map _ _), .map (some _), .map none => some false
  | some (.func _ _ _), .nilFunc, .func _ _ _ => some false
  | some (.func _ _ _), .func _ _ _, .nilFunc => some false
  | some (.pointer _), .pointer none, .pointer b => some b.isNone
  | some (.pointer _), .pointer (some _), .pointer none => some false
  | some (.interface _), .nilIface, .iface _ _ => some false
  | some (.interface _), .iface _ _, .nilIface => some false
  | _, _, _ => none
theorem eqNil_equal {t : TypeId} {x y x' y' : Value} {b : Bool} (h : eqNil P t x y = some b) (hx : VR E x x') (hy : VR E y y') (d : Nat) (w : World) : (Op.equalIn (d + 1) t x' y').run P w = .ok b w := by
  unfold eqNil at h
  split at h <;> first | (cases h; done) | skip
  all_goals
    rename_i hu
    cases hx <;> cases hy <;> simp at h <;> subst h <;> simp [Op.equalIn, run_underlying hu]
theorem eqNil_guard {t : TypeId} {x y x' y' : Value} {b : Bool} (h : eqNil P t x y = some b) (hx : VR E x x') (hy : VR E y y') (op : BinOp) (X Y : Operand) (w : World) : (eqGuard op t X Y x' y').run P w = .ok () w := by
  unfold eqNil at h
  split at h <;> first | (cases h; done) | skip
  all_goals
    cases hx <;> cases hy <;> first | (simp at h; done) | (cases op <;> simp [eqGuard])
theorem eqNil_bin {t : TypeId} {x y x' y' : Value} {b : Bool} (h : eqNil P t x y = some b) (hx : VR E x x') (hy : VR E y y') : binOp .eql t x' y' = (do pure (.bool (← Op.equal t x' y')) : Sem Value) ∧ binOp .neq t x' y' = (do pure (.bool (!(← Op.equal t x' y'))) : Sem Value) := by
  unfold eqNil at h
  split at h <;> first | (cases h; done) | skip
  all_goals
    cases hx <;> cases hy <;> first | exact ⟨rfl, rfl⟩ | (simp at h; done)
theorem eqNil_run {t : TypeId} {x y x' y' : Value} {b : Bool} (h : eqNil P t x y = some b) (hx : VR E x x') (hy : VR E y y') (X Y : Operand) (w : World) :
    (do eqGuard .eql t X Y x' y'; binOp .eql t x' y' : Sem Value).run P w = .ok (.bool b) w ∧ (do eqGuard .neq t X Y x' y'; binOp .neq t x' y' : Sem Value).run P w = .ok (.bool (!b)) w := by
  obtain ⟨h1, h2⟩ := eqNil_bin h hx hy
  have h3 : (Op.equal t x' y').run P w = .ok b w := eqNil_equal h hx hy 9999 w
  constructor
  · simp only [Sem.run_bind, eqNil_guard h hx hy, Result.andThen_ok, h1, h3, Sem.run_pure]
  · simp only [Sem.run_bind, eqNil_guard h hx hy, Result.andThen_ok, h2, h3, Sem.run_pure]
end Go.Am
