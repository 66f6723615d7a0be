/- Images read off an argument. Conditions: none. -/
import Derived.Test.YtbgjanmheagilaaDoorRd
import Derived.Test.YtbgjanmheagilaaDoorProg
import Derived.Test.YtbgjanmheagilaaDoorLift
set_option linter.unusedVariables false
set_option linter.unusedSimpArgs false
namespace Go.Proofs.YtbgjanmheagilaaDoor
open Go Go.RowKit Go.Nodes Go.WideShapes Go.ChangeShapes
set_option linter.unusedVariables false
set_option maxRecDepth 100000
theorem c3 : Tryd.prog.cellsOf 3 = 1 := by kernel_rfl
theorem c9 : Tryd.prog.cellsOf 9 = 1 := by kernel_rfl
theorem c46 : Tryd.prog.cellsOf 46 = 1 := by kernel_rfl
theorem c24 : Tryd.prog.cellsOf 24 = 1 := by kernel_rfl
theorem c48 : Tryd.prog.cellsOf 48 = 3 := by kernel_rfl
theorem c56 : Tryd.prog.cellsOf 56 = 6 := by kernel_rfl
theorem c61 : Tryd.prog.cellsOf 61 = 5 := by kernel_rfl
theorem c50 : Tryd.prog.cellsOf 50 = 1 := by kernel_rfl
theorem c53 : Tryd.prog.cellsOf 53 = 1 := by kernel_rfl
theorem c54 : Tryd.prog.cellsOf 54 = 1 := by kernel_rfl
theorem c42 : Tryd.prog.cellsOf 42 = 1 := by kernel_rfl
theorem c22 : Tryd.prog.cellsOf 22 = 1 := by kernel_rfl
theorem c23 : Tryd.prog.cellsOf 23 = 1 := by kernel_rfl
theorem c27 : Tryd.prog.cellsOf 27 = 8 := by kernel_rfl
theorem c26 : Tryd.prog.cellsOf 26 = 1 := by kernel_rfl
theorem c2 : Tryd.prog.cellsOf 2 = 1 := by kernel_rfl
theorem c4 : Tryd.prog.cellsOf 4 = 1 := by kernel_rfl
theorem c49 : Tryd.prog.cellsOf 49 = 1 := by kernel_rfl
theorem c52 : Tryd.prog.cellsOf 52 = 4 := by kernel_rfl
theorem c90 : Tryd.prog.cellsOf 90 = 2 := by kernel_rfl
theorem c29 : Tryd.prog.cellsOf 29 = 11 := by kernel_rfl
section
variable {H : Type} {enc : TypeId × Value → H} {W : World}
theorem field_of {P : Program} {t : TypeId} {fs : Array Field} {fuel : Nat} {cs : List Value} {x : DataW H × List MemPlace} (ht : P.underlying t = some (.struct fs)) (h : DataW.trod enc P W 0 (fun _ => true) true fuel t cs = some x) :
    ∃ n, fuel = n + 1 ∧ cs.length = P.cellsOf t ∧ ∀ (i : Nat) (f : Field), fs[i]? = some f → ∃ y, DataW.trod enc P W 0 (fun _ => true) true n f.type ((cs.drop f.offset).take (P.cellsOf f.type)) = some y := by
  obtain ⟨xs, n, h1, _, h2, h3, h4⟩ := DataW.trod_struct ht h
  refine ⟨n, h1, h2, fun i f hf => ?_⟩
  have hi : i < fs.size := (Array.getElem?_eq_some_iff.1 hf).1
  exact ⟨_, (h4 i f hf).trans (List.getElem?_eq_getElem (by omega))⟩
theorem ty48_of : ∀ (fuel : Nat) (cs : List Value) (y : DataW H × List MemPlace), DataW.trod enc Tryd.prog W 0 (fun _ => true) true fuel 48 cs = some y → ∃ T, TyAt W fuel cs T := by
  intro fuel
  induction fuel using Nat.strongRecOn with
  | ind fuel ih =>
  intro cs y h
  obtain ⟨n, rfl, hl, hf⟩ := field_of Tryd.underlying48 h
  rw [c48] at hl
  obtain ⟨v0, v1, v2, rfl⟩ : ∃ v0 v1 v2, cs = [v0, v1, v2] := by
    rcases cs with _ | ⟨v0, _ | ⟨v1, _ | ⟨v2, _ | ⟨v3, cs⟩⟩⟩⟩ <;> first | (simp at hl; done) | exact ⟨v0, v1, v2, rfl⟩
  obtain ⟨y0, h0⟩ := hf 0 _ rfl
  obtain ⟨y1, h1⟩ := hf 1 _ rfl
  obtain ⟨y2, h2⟩ := hf 2 _ rfl
  replace h0 : DataW.trod enc Tryd.prog W 0 (fun _ => true) true n 3 (([v0, v1, v2].drop 0).take (Tryd.prog.cellsOf 3)) = some y0 := h0
  replace h1 : DataW.trod enc Tryd.prog W 0 (fun _ => true) true n 46 (([v0, v1, v2].drop 1).take (Tryd.prog.cellsOf 46)) = some y1 := h1
  replace h2 : DataW.trod enc Tryd.prog W 0 (fun _ => true) true n 24 (([v0, v1, v2].drop 2).take (Tryd.prog.cellsOf 24)) = some y2 := h2
  rw [c3] at h0
  rw [c46] at h1
  rw [c24] at h2
  obtain ⟨k, hk, _, hkw⟩ := DataW.trod_int Tryd.underlying3 h0
  simp at hk; subst hk
  obtain ⟨np, nc, names, rfl, l1, hn⟩ := row_of textE Tryd.underlying46 c9 (by decide) h1 (fun m cs y _ h => text_of Tryd.underlying9 h)
  obtain ⟨ap, ac, args, rfl, l2, ha⟩ := row_of (TyAt W n) Tryd.underlying24 c48 (by decide) h2 (fun m cs y hm h => (ih m (by omega) cs y h).imp fun T hT => TyAt.le (by omega) hT)
  exact ⟨.mk k names args, i64_of hkw, l1, l2, np, nc, ap, ac, rfl, hn, ha⟩
theorem cn52_of (fuel : Nat) (cs : List Value) (y : DataW H × List MemPlace) (h : DataW.trod enc Tryd.prog W 0 (fun _ => true) true fuel 52 cs = some y) : ∃ c, cnE cs c := by
  obtain ⟨n, rfl, hl, hf⟩ := field_of Tryd.underlying52 h
  rw [c52] at hl
  obtain ⟨v0, v1, v2, v3, rfl⟩ : ∃ v0 v1 v2 v3, cs = [v0, v1, v2, v3] := by
    rcases cs with _ | ⟨v0, _ | ⟨v1, _ | ⟨v2, _ | ⟨v3, _ | ⟨vz, cs⟩⟩⟩⟩⟩ <;> first | (simp at hl; done) | exact ⟨v0, v1, v2, v3, rfl⟩ | (simp at hl; omega)
  obtain ⟨y0, h0⟩ := hf 0 _ rfl
  replace h0 : DataW.trod enc Tryd.prog W 0 (fun _ => true) true n 3 (([v0, v1, v2, v3].drop 0).take (Tryd.prog.cellsOf 3)) = some y0 := h0
  rw [c3] at h0
  replace h0 : DataW.trod enc Tryd.prog W 0 (fun _ => true) true n 3 [v0] = some y0 := h0
  obtain ⟨y1, h1⟩ := hf 1 _ rfl
  replace h1 : DataW.trod enc Tryd.prog W 0 (fun _ => true) true n 2 (([v0, v1, v2, v3].drop 1).take (Tryd.prog.cellsOf 2)) = some y1 := h1
  rw [c2] at h1
  replace h1 : DataW.trod enc Tryd.prog W 0 (fun _ => true) true n 2 [v1] = some y1 := h1
  obtain ⟨y2, h2⟩ := hf 2 _ rfl
  replace h2 : DataW.trod enc Tryd.prog W 0 (fun _ => true) true n 9 (([v0, v1, v2, v3].drop 2).take (Tryd.prog.cellsOf 9)) = some y2 := h2
  rw [c9] at h2
  replace h2 : DataW.trod enc Tryd.prog W 0 (fun _ => true) true n 9 [v2] = some y2 := h2
  obtain ⟨y3, h3⟩ := hf 3 _ rfl
  replace h3 : DataW.trod enc Tryd.prog W 0 (fun _ => true) true n 26 (([v0, v1, v2, v3].drop 3).take (Tryd.prog.cellsOf 26)) = some y3 := h3
  rw [c26] at h3
  replace h3 : DataW.trod enc Tryd.prog W 0 (fun _ => true) true n 26 [v3] = some y3 := h3
  obtain ⟨k, hk, _⟩ := DataW.trod_int Tryd.underlying3 h0
  obtain ⟨n', hn, _⟩ := DataW.trod_int Tryd.underlying2 h1
  obtain ⟨s, hs, _, hs2⟩ := DataW.trod_string Tryd.underlying9 h2
  obtain ⟨l, hlab, _⟩ := DataW.trod_int Tryd.underlying26 h3
  simp at hk hn hs hlab
  subst hk hn hs hlab
  exact ⟨⟨k, n', s, l⟩, rfl, hs2⟩
theorem up90_of (fuel : Nat) (cs : List Value) (y : DataW H × List MemPlace) (h : DataW.trod enc Tryd.prog W 0 (fun _ => true) true fuel 90 cs = some y) : ∃ u, upE cs u := by
  obtain ⟨n, rfl, hl, hf⟩ := field_of Tryd.underlying90 h
  rw [c90] at hl
  obtain ⟨v0, v1, rfl⟩ : ∃ v0 v1, cs = [v0, v1] := by
    rcases cs with _ | ⟨v0, _ | ⟨v1, _ | ⟨vz, cs⟩⟩⟩ <;> first | (simp at hl; done) | exact ⟨v0, v1, rfl⟩ | (simp at hl; omega)
  obtain ⟨y0, h0⟩ := hf 0 _ rfl
  replace h0 : DataW.trod enc Tryd.prog W 0 (fun _ => true) true n 4 (([v0, v1].drop 0).take (Tryd.prog.cellsOf 4)) = some y0 := h0
  rw [c4] at h0
  replace h0 : DataW.trod enc Tryd.prog W 0 (fun _ => true) true n 4 [v0] = some y0 := h0
  obtain ⟨y1, h1⟩ := hf 1 _ rfl
  replace h1 : DataW.trod enc Tryd.prog W 0 (fun _ => true) true n 3 (([v0, v1].drop 1).take (Tryd.prog.cellsOf 3)) = some y1 := h1
  rw [c3] at h1
  replace h1 : DataW.trod enc Tryd.prog W 0 (fun _ => true) true n 3 [v1] = some y1 := h1
  obtain ⟨k, hk, _⟩ := DataW.trod_bool Tryd.underlying4 h0
  obtain ⟨n', hn, _⟩ := DataW.trod_int Tryd.underlying3 h1
  simp at hk hn
  subst hk hn
  exact ⟨(k, n'), rfl⟩
theorem pr56_of (fuel : Nat) (cs : List Value) (y : DataW H × List MemPlace) (h : DataW.trod enc Tryd.prog W 0 (fun _ => true) true fuel 56 cs = some y) : ∃ P, PrAt W fuel cs P := by
  obtain ⟨n, rfl, hl, hf⟩ := field_of Tryd.underlying56 h
  rw [c56] at hl
  obtain ⟨v0, v1, v2, v3, v4, v5, rfl⟩ : ∃ v0 v1 v2 v3 v4 v5, cs = [v0, v1, v2, v3, v4, v5] := by
    rcases cs with _ | ⟨v0, _ | ⟨v1, _ | ⟨v2, _ | ⟨v3, _ | ⟨v4, _ | ⟨v5, _ | ⟨vz, cs⟩⟩⟩⟩⟩⟩⟩ <;> first | (simp at hl; done) | exact ⟨v0, v1, v2, v3, v4, v5, rfl⟩ | (simp at hl; omega)
  obtain ⟨y0, h0⟩ := hf 0 _ rfl
  replace h0 : DataW.trod enc Tryd.prog W 0 (fun _ => true) true n 24 (([v0, v1, v2, v3, v4, v5].drop 0).take (Tryd.prog.cellsOf 24)) = some y0 := h0
  rw [c24] at h0
  replace h0 : DataW.trod enc Tryd.prog W 0 (fun _ => true) true n 24 [v0] = some y0 := h0
  obtain ⟨y1, h1⟩ := hf 1 _ rfl
  replace h1 : DataW.trod enc Tryd.prog W 0 (fun _ => true) true n 3 (([v0, v1, v2, v3, v4, v5].drop 1).take (Tryd.prog.cellsOf 3)) = some y1 := h1
  rw [c3] at h1
  replace h1 : DataW.trod enc Tryd.prog W 0 (fun _ => true) true n 3 [v1] = some y1 := h1
  obtain ⟨y2, h2⟩ := hf 2 _ rfl
  replace h2 : DataW.trod enc Tryd.prog W 0 (fun _ => true) true n 50 (([v0, v1, v2, v3, v4, v5].drop 2).take (Tryd.prog.cellsOf 50)) = some y2 := h2
  rw [c50] at h2
  replace h2 : DataW.trod enc Tryd.prog W 0 (fun _ => true) true n 50 [v2] = some y2 := h2
  obtain ⟨y3, h3⟩ := hf 3 _ rfl
  replace h3 : DataW.trod enc Tryd.prog W 0 (fun _ => true) true n 53 (([v0, v1, v2, v3, v4, v5].drop 3).take (Tryd.prog.cellsOf 53)) = some y3 := h3
  rw [c53] at h3
  replace h3 : DataW.trod enc Tryd.prog W 0 (fun _ => true) true n 53 [v3] = some y3 := h3
  obtain ⟨y4, h4⟩ := hf 4 _ rfl
  replace h4 : DataW.trod enc Tryd.prog W 0 (fun _ => true) true n 54 (([v0, v1, v2, v3, v4, v5].drop 4).take (Tryd.prog.cellsOf 54)) = some y4 := h4
  rw [c54] at h4
  replace h4 : DataW.trod enc Tryd.prog W 0 (fun _ => true) true n 54 [v4] = some y4 := h4
  obtain ⟨y5, h5⟩ := hf 5 _ rfl
  replace h5 : DataW.trod enc Tryd.prog W 0 (fun _ => true) true n 42 (([v0, v1, v2, v3, v4, v5].drop 5).take (Tryd.prog.cellsOf 42)) = some y5 := h5
  rw [c42] at h5
  replace h5 : DataW.trod enc Tryd.prog W 0 (fun _ => true) true n 42 [v5] = some y5 := h5
  obtain ⟨g, hg, _⟩ := DataW.trod_int Tryd.underlying3 h1
  simp at hg; subst hg
  obtain ⟨tp, tc, types, rfl, l1, k1⟩ := row_of (TyAt W n) Tryd.underlying24 c48 (by decide) h0 (fun m cs y hm h => (ty48_of m cs y h).imp fun T hT => TyAt.le (by omega) hT)
  obtain ⟨wp, wc, words, rfl, l2, k2⟩ := row_of (intE .u32) Tryd.underlying50 c49 (by decide) h2 (fun m cs y _ h => int_of Tryd.underlying49 h)
  obtain ⟨cp, cc, consts, rfl, l3, k3⟩ := row_of cnE Tryd.underlying53 c52 (by decide) h3 (fun m cs y _ h => cn52_of m cs y h)
  obtain ⟨up, uc, ups, rfl, l4, k4⟩ := row_of upE Tryd.underlying54 c90 (by decide) h4 (fun m cs y _ h => up90_of m cs y h)
  obtain ⟨pp, pc, places, rfl, l5, k5⟩ := row_of (intE .i64) Tryd.underlying42 c3 (by decide) h5 (fun m cs y _ h => int_of Tryd.underlying3 h)
  exact ⟨⟨types, g, words, consts, ups, places⟩, l1, l2, l3, l4, l5, tp, tc, wp, wc, cp, cc, up, uc, pp, pc, rfl, k1.later (Below.refl _ _) fun vs x _ hx => TyAt.le (by omega) hx, k2, k3, k4, k5⟩
theorem bl61_of (fuel : Nat) (cs : List Value) (y : DataW H × List MemPlace) (h : DataW.trod enc Tryd.prog W 0 (fun _ => true) true fuel 61 cs = some y) : ∃ B, BlAt W fuel cs B := by
  obtain ⟨n, rfl, hl, hf⟩ := field_of Tryd.underlying61 h
  rw [c61] at hl
  obtain ⟨v0, v1, v2, v3, v4, rfl⟩ : ∃ v0 v1 v2 v3 v4, cs = [v0, v1, v2, v3, v4] := by
    rcases cs with _ | ⟨v0, _ | ⟨v1, _ | ⟨v2, _ | ⟨v3, _ | ⟨v4, _ | ⟨vz, cs⟩⟩⟩⟩⟩⟩ <;> first | (simp at hl; done) | exact ⟨v0, v1, v2, v3, v4, rfl⟩ | (simp at hl; omega)
  obtain ⟨y0, h0⟩ := hf 0 _ rfl
  replace h0 : DataW.trod enc Tryd.prog W 0 (fun _ => true) true n 48 (([v0, v1, v2, v3, v4].drop 0).take (Tryd.prog.cellsOf 48)) = some y0 := h0
  rw [c48] at h0
  replace h0 : DataW.trod enc Tryd.prog W 0 (fun _ => true) true n 48 [v0, v1, v2] = some y0 := h0
  obtain ⟨y1, h1⟩ := hf 1 _ rfl
  replace h1 : DataW.trod enc Tryd.prog W 0 (fun _ => true) true n 3 (([v0, v1, v2, v3, v4].drop 3).take (Tryd.prog.cellsOf 3)) = some y1 := h1
  rw [c3] at h1
  replace h1 : DataW.trod enc Tryd.prog W 0 (fun _ => true) true n 3 [v3] = some y1 := h1
  obtain ⟨y2, h2⟩ := hf 2 _ rfl
  replace h2 : DataW.trod enc Tryd.prog W 0 (fun _ => true) true n 3 (([v0, v1, v2, v3, v4].drop 4).take (Tryd.prog.cellsOf 3)) = some y2 := h2
  rw [c3] at h2
  replace h2 : DataW.trod enc Tryd.prog W 0 (fun _ => true) true n 3 [v4] = some y2 := h2
  obtain ⟨T, hT⟩ := ty48_of _ _ _ h0
  obtain ⟨s, hs, _⟩ := DataW.trod_int Tryd.underlying3 h1
  obtain ⟨e, he, _⟩ := DataW.trod_int Tryd.underlying3 h2
  simp at hs he
  subst hs he
  exact ⟨⟨T, s, e⟩, v0, v1, v2, rfl, TyAt.le (by omega) hT⟩
theorem open_image {v : Value} {d : DataW H} {pl : List MemPlace} {r : Reach} {b0 : Nat} (hv : Value.okWide Tryd.prog W r b0 29 v) (h : DataW.Trod enc Tryd.prog W 0 (fun _ => true) true 29 v d pl) : ∃ f cs I, v = .agg cs.toArray ∧ ImAt W f cs I := by
  obtain ⟨cs, n, rfl, hl, hf⟩ := open_struct Tryd.underlying29 hv h
  rw [c29] at hl
  obtain ⟨v0, v1, v2, v3, v4, v5, v6, v7, v8, v9, v10, rfl⟩ : ∃ v0 v1 v2 v3 v4 v5 v6 v7 v8 v9 v10, cs = [v0, v1, v2, v3, v4, v5, v6, v7, v8, v9, v10] := by
    rcases cs with _ | ⟨v0, _ | ⟨v1, _ | ⟨v2, _ | ⟨v3, _ | ⟨v4, _ | ⟨v5, _ | ⟨v6, _ | ⟨v7, _ | ⟨v8, _ | ⟨v9, _ | ⟨v10, _ | ⟨vz, cs⟩⟩⟩⟩⟩⟩⟩⟩⟩⟩⟩⟩ <;> first | (simp at hl; done) | exact ⟨v0, v1, v2, v3, v4, v5, v6, v7, v8, v9, v10, rfl⟩ | (simp at hl; omega)
  obtain ⟨y0, h0⟩ := hf 0 _ rfl
  replace h0 : DataW.trod enc Tryd.prog W 0 (fun _ => true) true n 22 (([v0, v1, v2, v3, v4, v5, v6, v7, v8, v9, v10].drop 0).take (Tryd.prog.cellsOf 22)) = some y0 := h0
  rw [c22] at h0
  replace h0 : DataW.trod enc Tryd.prog W 0 (fun _ => true) true n 22 [v0] = some y0 := h0
  obtain ⟨y1, h1⟩ := hf 1 _ rfl
  replace h1 : DataW.trod enc Tryd.prog W 0 (fun _ => true) true n 23 (([v0, v1, v2, v3, v4, v5, v6, v7, v8, v9, v10].drop 1).take (Tryd.prog.cellsOf 23)) = some y1 := h1
  rw [c23] at h1
  replace h1 : DataW.trod enc Tryd.prog W 0 (fun _ => true) true n 23 [v1] = some y1 := h1
  obtain ⟨y2, h2⟩ := hf 2 _ rfl
  replace h2 : DataW.trod enc Tryd.prog W 0 (fun _ => true) true n 24 (([v0, v1, v2, v3, v4, v5, v6, v7, v8, v9, v10].drop 2).take (Tryd.prog.cellsOf 24)) = some y2 := h2
  rw [c24] at h2
  replace h2 : DataW.trod enc Tryd.prog W 0 (fun _ => true) true n 24 [v2] = some y2 := h2
  obtain ⟨y3, h3⟩ := hf 3 _ rfl
  replace h3 : DataW.trod enc Tryd.prog W 0 (fun _ => true) true n 27 (([v0, v1, v2, v3, v4, v5, v6, v7, v8, v9, v10].drop 3).take (Tryd.prog.cellsOf 27)) = some y3 := h3
  rw [c27] at h3
  replace h3 : DataW.trod enc Tryd.prog W 0 (fun _ => true) true n 27 [v3, v4, v5, v6, v7, v8, v9, v10] = some y3 := h3
  obtain ⟨pp, pc, protos, rfl, l1, k1⟩ := row_of (PrAt W n) Tryd.underlying22 c56 (by decide) h0 (fun m cs y hm h => (pr56_of m cs y h).imp fun T hT => PrAt.le (by omega) hT)
  obtain ⟨cp, cc, casts, rfl, l2, k2⟩ := row_of (BlAt W n) Tryd.underlying23 c61 (by decide) h1 (fun m cs y hm h => (bl61_of m cs y h).imp fun T hT => BlAt.le (by omega) hT)
  obtain ⟨sp, sc, shapes, rfl, l3, k3⟩ := row_of (TyAt W n) Tryd.underlying24 c48 (by decide) h2 (fun m cs y hm h => (ty48_of m cs y h).imp fun T hT => TyAt.le (by omega) hT)
  obtain ⟨xs, m, _, _, _, hx, hm⟩ := DataW.trod_array Tryd.underlying27 h3
  have one : ∀ i, i < 8 → ∃ y, DataW.trod enc Tryd.prog W 0 (fun _ => true) true m 26 (([v3, v4, v5, v6, v7, v8, v9, v10].drop (i * Tryd.prog.cellsOf 26)).take (Tryd.prog.cellsOf 26)) = some y := fun i hi => ⟨_, (hm i hi).trans (List.getElem?_eq_getElem (by omega))⟩
  rw [c26] at one
  obtain ⟨z0, g0⟩ := one 0 (by decide)
  obtain ⟨m0, e0, _⟩ := DataW.trod_int Tryd.underlying26 (show DataW.trod enc Tryd.prog W 0 (fun _ => true) true m 26 [v3] = some z0 from g0)
  obtain ⟨z1, g1⟩ := one 1 (by decide)
  obtain ⟨m1, e1, _⟩ := DataW.trod_int Tryd.underlying26 (show DataW.trod enc Tryd.prog W 0 (fun _ => true) true m 26 [v4] = some z1 from g1)
  obtain ⟨z2, g2⟩ := one 2 (by decide)
  obtain ⟨m2, e2, _⟩ := DataW.trod_int Tryd.underlying26 (show DataW.trod enc Tryd.prog W 0 (fun _ => true) true m 26 [v5] = some z2 from g2)
  obtain ⟨z3, g3⟩ := one 3 (by decide)
  obtain ⟨m3, e3, _⟩ := DataW.trod_int Tryd.underlying26 (show DataW.trod enc Tryd.prog W 0 (fun _ => true) true m 26 [v6] = some z3 from g3)
  obtain ⟨z4, g4⟩ := one 4 (by decide)
  obtain ⟨m4, e4, _⟩ := DataW.trod_int Tryd.underlying26 (show DataW.trod enc Tryd.prog W 0 (fun _ => true) true m 26 [v7] = some z4 from g4)
  obtain ⟨z5, g5⟩ := one 5 (by decide)
  obtain ⟨m5, e5, _⟩ := DataW.trod_int Tryd.underlying26 (show DataW.trod enc Tryd.prog W 0 (fun _ => true) true m 26 [v8] = some z5 from g5)
  obtain ⟨z6, g6⟩ := one 6 (by decide)
  obtain ⟨m6, e6, _⟩ := DataW.trod_int Tryd.underlying26 (show DataW.trod enc Tryd.prog W 0 (fun _ => true) true m 26 [v9] = some z6 from g6)
  obtain ⟨z7, g7⟩ := one 7 (by decide)
  obtain ⟨m7, e7, _⟩ := DataW.trod_int Tryd.underlying26 (show DataW.trod enc Tryd.prog W 0 (fun _ => true) true m 26 [v10] = some z7 from g7)
  simp at e0 e1 e2 e3 e4 e5 e6 e7
  subst e0 e1 e2 e3 e4 e5 e6 e7
  exact ⟨n, _, ⟨protos, casts, shapes, [m0, m1, m2, m3, m4, m5, m6, m7]⟩, rfl, l1, l2, l3, pp, pc, cp, cc, sp, sc, m0, m1, m2, m3, m4, m5, m6, m7, rfl, rfl, k1, k2, k3⟩
end
end Go.Proofs.YtbgjanmheagilaaDoor
