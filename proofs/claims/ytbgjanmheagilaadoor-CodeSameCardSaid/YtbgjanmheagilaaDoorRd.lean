/- Images, as they lie, and how they are read off an argument. Conditions: none (over any program). -/
import Derived.OpenShut
import Derived.Test.YtbgjanmheagilaaDoorTy
import Derived.Test.YtbgjanmheagilaaDoorNodesB
set_option linter.unusedVariables false
set_option linter.unusedSimpArgs false
namespace Go.Nodes
open Go Go.RowKit Go.ChangeShapes Go.WideShapes Go.Deep
set_option linter.unusedVariables false
/-- A constant. -/
structure Cn where
  k : Int
  n : Int
  s : ByteArray
  l : Int
/-- A function. -/
structure Pr where
  types : List Sk
  regs : Int
  words : List Int
  consts : List Cn
  ups : List (Bool × Int)
  places : List Int
/-- A cast. -/
structure Bl where
  to : Sk
  side : Int
  place : Int
/-- An image. -/
structure Im where
  protos : List Pr
  casts : List Bl
  shapes : List Sk
  masks : List Int
def intE (K : IntKind) (vs : List Value) (x : Int) : Prop := vs = [.int K x]
def cnE (vs : List Value) (c : Cn) : Prop := vs = [.int .i64 c.k, .int .i64 c.n, .string c.s, .int .u64 c.l] ∧ c.s.size ≤ maxLen
def upE (vs : List Value) (u : Bool × Int) : Prop := vs = [.bool u.1, .int .i64 u.2]
def PrAt (W : World) (f : Nat) (vs : List Value) (P : Pr) : Prop :=
  P.types.length ≤ maxLen ∧ P.words.length ≤ maxLen ∧ P.consts.length ≤ maxLen ∧ P.ups.length ≤ maxLen ∧ P.places.length ≤ maxLen ∧
  ∃ tp tc wp wc cp cc up uc pp pc, vs = [.slice tp P.types.length tc, .int .i64 P.regs, .slice wp P.words.length wc, .slice cp P.consts.length cc, .slice up P.ups.length uc, .slice pp P.places.length pc] ∧
    RowOf W 3 (TyAt W f) tp P.types ∧ RowOf W 1 (intE .u32) wp P.words ∧ RowOf W 4 cnE cp P.consts ∧ RowOf W 2 upE up P.ups ∧ RowOf W 1 (intE .i64) pp P.places
def BlAt (W : World) (f : Nat) (vs : List Value) (B : Bl) : Prop :=
  ∃ v0 v1 v2, vs = [v0, v1, v2, .int .i64 B.side, .int .i64 B.place] ∧ TyAt W f [v0, v1, v2] B.to
def ImAt (W : World) (f : Nat) (vs : List Value) (I : Im) : Prop :=
  I.protos.length ≤ maxLen ∧ I.casts.length ≤ maxLen ∧ I.shapes.length ≤ maxLen ∧
  ∃ pp pc cp cc sp sc m0 m1 m2 m3 m4 m5 m6 m7, I.masks = [m0, m1, m2, m3, m4, m5, m6, m7] ∧ vs = [.slice pp I.protos.length pc, .slice cp I.casts.length cc, .slice sp I.shapes.length sc, .int .u64 m0, .int .u64 m1, .int .u64 m2, .int .u64 m3, .int .u64 m4, .int .u64 m5, .int .u64 m6, .int .u64 m7] ∧
    RowOf W 6 (PrAt W f) pp I.protos ∧ RowOf W 5 (BlAt W f) cp I.casts ∧ RowOf W 3 (TyAt W f) sp I.shapes
theorem PrAt.later {W W' : World} (hb : Below W.heap.size W W') {f : Nat} {vs : List Value} {P : Pr} (h : PrAt W f vs P) : PrAt W' f vs P := by
  obtain ⟨h1, h2, h3, h4, h5, tp, tc, wp, wc, cp, cc, up, uc, pp, pc, hv, k1, k2, k3, k4, k5⟩ := h
  exact ⟨h1, h2, h3, h4, h5, tp, tc, wp, wc, cp, cc, up, uc, pp, pc, hv, k1.later hb fun vs x _ h => TyAt.later hb f vs x h, k2.later hb fun _ _ _ h => h, k3.later hb fun _ _ _ h => h, k4.later hb fun _ _ _ h => h, k5.later hb fun _ _ _ h => h⟩
theorem BlAt.later {W W' : World} (hb : Below W.heap.size W W') {f : Nat} {vs : List Value} {B : Bl} (h : BlAt W f vs B) : BlAt W' f vs B := by
  obtain ⟨v0, v1, v2, hv, k⟩ := h
  exact ⟨v0, v1, v2, hv, TyAt.later hb f _ _ k⟩
theorem ImAt.later {W W' : World} (hb : Below W.heap.size W W') {f : Nat} {vs : List Value} {I : Im} (h : ImAt W f vs I) : ImAt W' f vs I := by
  obtain ⟨h1, h2, h3, pp, pc, cp, cc, sp, sc, m0, m1, m2, m3, m4, m5, m6, m7, hm, hv, k1, k2, k3⟩ := h
  exact ⟨h1, h2, h3, pp, pc, cp, cc, sp, sc, m0, m1, m2, m3, m4, m5, m6, m7, hm, hv, k1.later hb fun vs x _ h => h.later hb, k2.later hb fun _ _ _ h => h.later hb, k3.later hb fun vs x _ h => TyAt.later hb f vs x h⟩
theorem TyAt.le {W : World} {m n : Nat} (h : m ≤ n) {vs : List Value} {T : Sk} (hT : TyAt W m vs T) : TyAt W n vs T := by
  induction h with
  | refl => exact hT
  | step _ ih => exact TyAt.more _ _ _ ih
theorem PrAt.le {W : World} {m n : Nat} (h : m ≤ n) {vs : List Value} {P : Pr} (hP : PrAt W m vs P) : PrAt W n vs P := by
  obtain ⟨h1, h2, h3, h4, h5, tp, tc, wp, wc, cp, cc, up, uc, pp, pc, hv, k1, k2⟩ := hP
  exact ⟨h1, h2, h3, h4, h5, tp, tc, wp, wc, cp, cc, up, uc, pp, pc, hv, k1.later (Below.refl _ _) fun vs x _ hx => TyAt.le h hx, k2⟩
theorem BlAt.le {W : World} {m n : Nat} (h : m ≤ n) {vs : List Value} {B : Bl} (hB : BlAt W m vs B) : BlAt W n vs B := by
  obtain ⟨v0, v1, v2, hv, k⟩ := hB
  exact ⟨v0, v1, v2, hv, TyAt.le h k⟩
section
variable {H : Type} {enc : TypeId × Value → H} {P : Program} {W : World}
theorem row_of {α : Type} {t e : TypeId} {fuel n : Nat} {v : Value} {x : DataW H × List MemPlace} (E : List Value → α → Prop) (ht : P.underlying t = some (.slice e)) (hc : P.cellsOf e = n) (hn : 0 < n)
    (h : DataW.trod enc P W 0 (fun _ => true) true fuel t [v] = some x)
    (hE : ∀ m cs y, m < fuel → DataW.trod enc P W 0 (fun _ => true) true m e cs = some y → ∃ a, E cs a) :
    ∃ p cap xs, v = .slice p xs.length cap ∧ xs.length ≤ maxLen ∧ RowOf W n E p xs := by
  rcases DataW.trod_slice ht h with ⟨h1, _⟩ | ⟨a, len, cap, elems, rest, m, hfu, hcs, _, _, hle, hm, hlen, hel, _⟩
  · simp at h1; subst h1
    exact ⟨none, 0, [], rfl, by simp, .inl rfl⟩
  · simp at hcs; subst hcs
    have one : ∀ i, i < len → ∃ (cs : List Value) (y : α), cs.length = n ∧ (∀ j, j < n → W.cell? ((a.add (i * n)).add j) = cs[j]?) ∧ E cs y := fun i hi => by
      have h1 := hel i hi
      rw [List.getElem?_eq_getElem (by omega), hc] at h1
      obtain ⟨cs, h2, h3⟩ := Option.bind_eq_some_iff.1 h1
      obtain ⟨_, hcl, hat⟩ := World.cells?_some h2
      obtain ⟨y, hy⟩ := hE m cs _ (by omega) h3
      exact ⟨cs, y, hcl, hat, hy⟩
    by_cases h0 : len = 0
    · subst h0
      exact ⟨some a, cap, [], rfl, by simp, .inl rfl⟩
    · obtain ⟨cs0, y0, l0, c0, _⟩ := one 0 (by omega)
      have c00 := c0 0 hn
      rw [List.getElem?_eq_getElem (by omega)] at c00
      have hs := World.cell?_spot c00
      obtain ⟨b, o, sp⟩ := a
      simp [Addr.add] at hs
      subst hs
      have hb := World.block_lt_of_cell? _ _ c00
      let f : Nat → α := fun i => if h : i < len then Classical.choose (Classical.choose_spec (one i h)) else y0
      refine ⟨some ⟨b, o, none⟩, cap, (List.range len).map f, by simp, by simp; omega, .inr ⟨b, o, rfl, by simpa [Addr.add] using hb, fun i hi => ?_⟩⟩
      have hi2 : i < len := by simpa using hi
      have hsp := Classical.choose_spec (Classical.choose_spec (one i hi2))
      refine ⟨Classical.choose (one i hi2), hsp.1, fun j v hj => ?_, ?_⟩
      · have hj2 : j < n := by rw [← hsp.1]; exact (List.getElem?_eq_some_iff.1 hj).1
        have := hsp.2.1 j hj2
        rw [hj, add_some rfl, add_some rfl] at this
        exact this
      · have : ((List.range len).map f)[i] = Classical.choose (Classical.choose_spec (one i hi2)) := by
          simp only [List.getElem_map, List.getElem_range, f, dif_pos hi2]
        rw [this]; exact hsp.2.2
theorem int_of {t : TypeId} {K : IntKind} {fuel : Nat} {cs : List Value} {x : DataW H × List MemPlace} (ht : P.underlying t = some (.int K)) (h : DataW.trod enc P W 0 (fun _ => true) true fuel t cs = some x) : ∃ n, intE K cs n := by
  obtain ⟨n, h1, _⟩ := DataW.trod_int ht h
  exact ⟨n, h1⟩
theorem text_of {t : TypeId} {fuel : Nat} {cs : List Value} {x : DataW H × List MemPlace} (ht : P.underlying t = some .string) (h : DataW.trod enc P W 0 (fun _ => true) true fuel t cs = some x) : ∃ s, textE cs s := by
  obtain ⟨s, h1, _, h2⟩ := DataW.trod_string ht h
  exact ⟨s, h1, h2⟩
end
end Go.Nodes
