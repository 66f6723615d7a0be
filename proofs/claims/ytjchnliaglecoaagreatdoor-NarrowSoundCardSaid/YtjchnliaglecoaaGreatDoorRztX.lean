/- Rows read off an argument, with what the row says of their sizes; a type read so. Conditions: none (over any program). -/
import Derived.OpenShut
import Derived.Test.YtjchnliaglecoaaGreatDoorTk5X
import Derived.Test.YtjchnliaglecoaaGreatDoorLift
import Derived.ProofKit
import Derived.Test.YtjchnliaglecoaaGreatDoorProg
set_option linter.unusedVariables false
set_option linter.unusedSimpArgs false
namespace Go.Proofs.YtjchnliaglecoaaGreatDoor
open Go Go.RowKit Go.Nodes Go.WideShapes Go.ChangeShapes Go.Deep
set_option linter.unusedVariables false
theorem TyAt.le {W : World} {m n : Nat} (h : m ≤ n) {vs : List Value} {T : Sk} (hT : TyAt W m vs T) : TyAt W n vs T := by
  induction h with
  | refl => exact hT
  | step _ ih => exact TyAt.more _ _ _ ih
theorem SmallT.more {W : World} : ∀ (m : Nat) (vs : List Value) (T : Sk), TyAt W m vs T → SmallT m T → SmallT (m + 1) T
  | 0, _, _, h, _ => h.elim
  | m + 1, vs, .mk k ns qs, h, hs => by
    obtain ⟨_, _, _, np, nc, ap, ac, _, _, ha⟩ := h
    refine ⟨hs.1, fun T hT => ?_⟩
    obtain ⟨i, hi, rfl⟩ := List.getElem_of_mem hT
    obtain ⟨_, _, _, _, vs, _, _, hv⟩ := ha.at hi
    exact SmallT.more m vs _ hv (hs.2 _ hT)
theorem SmallT.le {W : World} {m n : Nat} (h : m ≤ n) {vs : List Value} {T : Sk} (hT : TyAt W m vs T) (hs : SmallT m T) : SmallT n T := by
  induction h with
  | refl => exact hs
  | step hle ih => exact SmallT.more _ vs _ (TyAt.le hle hT) ih
section
variable {H : Type} {enc : TypeId × Value → H} {P : Program} {W : World}
theorem row_ofz {α : Type} {t e : TypeId} {fuel n : Nat} {v : Value} {x : DataW H × List MemPlace} (E : List Value → α → Prop) (ht : P.underlying t = some (.slice e)) (hc : P.cellsOf e = n) (hn : 0 < n)
    (h : DataW.trod enc P W 0 (fun _ => true) true fuel t [v] = some x) (hw : ∀ z ∈ x.1.weights P t, z ≤ reachBytes)
    (hE : ∀ m cs y, m < fuel → DataW.trod enc P W 0 (fun _ => true) true m e cs = some y → (∀ z ∈ y.1.weights P e, z ≤ reachBytes) → ∃ a, E cs a) :
    ∃ p cap xs, v = .slice p xs.length cap ∧ xs.length ≤ maxLen ∧ RowOf W n E p xs := by
  rcases DataW.trod_slice ht h with ⟨h1, _⟩ | ⟨a, len, cap, elems, rest, m, hfu, hcs, hx, _, hle, hm, hlen, hel, _⟩
  · simp at h1; subst h1
    exact ⟨none, 0, [], rfl, by simp, .inl rfl⟩
  · simp at hcs; subst hcs
    have one : ∀ i, i < len → ∃ (cs : List Value) (y : α), cs.length = n ∧ (∀ j, j < n → W.cell? ((a.add (i * n)).add j) = cs[j]?) ∧ E cs y := fun i hi => by
      have h1 := hel i hi
      rw [List.getElem?_eq_getElem (by omega), hc] at h1
      obtain ⟨cs, h2, h3⟩ := Option.bind_eq_some_iff.1 h1
      obtain ⟨_, hcl, hat⟩ := World.cells?_some h2
      obtain ⟨y, hy⟩ := hE m cs _ (by omega) h3 (fun z hz => by
        refine hw z ?_
        rw [hx]
        simp only [DataW.weights, ht, List.mem_cons, List.mem_append]
        right; left
        exact mem_weightsAll (List.mem_map.2 ⟨_, List.getElem_mem (by omega), rfl⟩) hz)
      exact ⟨cs, y, hcl, hat, hy⟩
    by_cases h0 : len = 0
    · subst h0
      exact ⟨some a, cap, [], rfl, by simp, .inl rfl⟩
    · obtain ⟨cs0, y0, l0, c0, _⟩ := one 0 (by omega)
      have c00 := c0 0 hn
      rw [List.getElem?_eq_getElem (by omega)] at c00
      have hs := World.cell?_spot c00
      obtain ⟨b, o, sp⟩ := a
      simp [Addr.add] at hs
      subst hs
      have hb := World.block_lt_of_cell? _ _ c00
      let f : Nat → α := fun i => if h : i < len then Classical.choose (Classical.choose_spec (one i h)) else y0
      refine ⟨some ⟨b, o, none⟩, cap, (List.range len).map f, by simp, by simp; omega, .inr ⟨b, o, rfl, by simpa [Addr.add] using hb, fun i hi => ?_⟩⟩
      have hi2 : i < len := by simpa using hi
      have hsp := Classical.choose_spec (Classical.choose_spec (one i hi2))
      refine ⟨Classical.choose (one i hi2), hsp.1, fun j v hj => ?_, ?_⟩
      · have hj2 : j < n := by rw [← hsp.1]; exact (List.getElem?_eq_some_iff.1 hj).1
        have := hsp.2.1 j hj2
        rw [hj, add_some rfl, add_some rfl] at this
        exact this
      · have : ((List.range len).map f)[i] = Classical.choose (Classical.choose_spec (one i hi2)) := by
          simp only [List.getElem_map, List.getElem_range, f, dif_pos hi2]
        rw [this]; exact hsp.2.2
def textZ (vs : List Value) (s : ByteArray) : Prop := textE vs s ∧ s.size ≤ 140737488355328
theorem text_ofz {t : TypeId} {fuel : Nat} {cs : List Value} {x : DataW H × List MemPlace} (ht : P.underlying t = some .string) (h : DataW.trod enc P W 0 (fun _ => true) true fuel t cs = some x) (hw : ∀ z ∈ x.1.weights P t, z ≤ reachBytes) : ∃ s, textZ cs s := by
  obtain ⟨s, h1, hx, h2⟩ := DataW.trod_string ht h
  have h3 := hw s.data.toList.length (by rw [hx]; simp only [DataW.weights, List.mem_singleton])
  have h4 : s.data.toList.length = s.size := by simp
  refine ⟨s, ⟨h1, h2⟩, ?_⟩
  rw [h4] at h3
  unfold reachBytes at h3
  omega
theorem row_split {α : Type} {n : Nat} {E : List Value → α → Prop} {Q : α → Prop} {p : Option Addr} {xs : List α} (h : RowOf W n (fun vs x => E vs x ∧ Q x) p xs) : RowOf W n E p xs ∧ ∀ x ∈ xs, Q x := by
  refine ⟨h.later (Below.refl _ _) fun _ _ _ hx => hx.1, fun x hx => ?_⟩
  obtain ⟨i, hi, rfl⟩ := List.getElem_of_mem hx
  obtain ⟨_, _, _, _, vs, _, _, hv⟩ := h.at hi
  exact hv.2
theorem field_ofz {t : TypeId} {fs : Array Field} {fuel : Nat} {cs : List Value} {x : DataW H × List MemPlace} (ht : P.underlying t = some (.struct fs)) (h : DataW.trod enc P W 0 (fun _ => true) true fuel t cs = some x) (hw : ∀ z ∈ x.1.weights P t, z ≤ reachBytes) :
    ∃ n, fuel = n + 1 ∧ cs.length = P.cellsOf t ∧ ∀ (i : Nat) (f : Field), fs[i]? = some f → ∃ y, DataW.trod enc P W 0 (fun _ => true) true n f.type ((cs.drop f.offset).take (P.cellsOf f.type)) = some y ∧ ∀ z ∈ y.1.weights P f.type, z ≤ reachBytes := by
  obtain ⟨xs, n, h1, hx, h2, h3, h4⟩ := DataW.trod_struct ht h
  refine ⟨n, h1, h2, fun i f hf => ?_⟩
  have hi : i < fs.size := (Array.getElem?_eq_some_iff.1 hf).1
  refine ⟨_, (h4 i f hf).trans (List.getElem?_eq_getElem (by omega)), fun z hz => hw z ?_⟩
  rw [hx]
  simp only [DataW.weights, ht]
  refine DataW.weights_mem_each (j := i) ?_ ?_ z hz
  · rw [List.getElem?_map]
    simp [hf]
  · rw [List.getElem?_map, List.getElem?_eq_getElem (by omega)]
    rfl
end
end Go.Proofs.YtjchnliaglecoaaGreatDoor

/- A type read off an argument. Conditions: none. -/
namespace Go.Proofs.YtjchnliaglecoaaGreatDoor
open Go Go.RowKit Go.Nodes Go.WideShapes Go.ChangeShapes
set_option linter.unusedVariables false
set_option maxRecDepth 100000
theorem c3 : Tryz.prog.cellsOf 3 = 1 := by kernel_rfl
theorem c9 : Tryz.prog.cellsOf 9 = 1 := by kernel_rfl
theorem c36 : Tryz.prog.cellsOf 36 = 1 := by kernel_rfl
theorem c37 : Tryz.prog.cellsOf 37 = 1 := by kernel_rfl
theorem c39 : Tryz.prog.cellsOf 39 = 3 := by kernel_rfl
section
variable {H : Type} {enc : TypeId × Value → H} {W : World}
theorem ty39_ofz : ∀ (fuel : Nat) (cs : List Value) (y : DataW H × List MemPlace), DataW.trod enc Tryz.prog W 0 (fun _ => true) true fuel 39 cs = some y → (∀ z ∈ y.1.weights Tryz.prog 39, z ≤ reachBytes) → ∃ T, TyAt W fuel cs T ∧ SmallT fuel T := by
  intro fuel
  induction fuel using Nat.strongRecOn with
  | ind fuel ih =>
  intro cs y h hw
  obtain ⟨n, rfl, hl, hf⟩ := field_ofz Tryz.underlying39 h hw
  rw [c39] at hl
  obtain ⟨v0, v1, v2, rfl⟩ : ∃ v0 v1 v2, cs = [v0, v1, v2] := by
    rcases cs with _ | ⟨v0, _ | ⟨v1, _ | ⟨v2, _ | ⟨v3, cs⟩⟩⟩⟩ <;> first | (simp at hl; done) | exact ⟨v0, v1, v2, rfl⟩
  obtain ⟨y0, h0, w0⟩ := hf 0 _ rfl
  obtain ⟨y1, h1, w1⟩ := hf 1 _ rfl
  obtain ⟨y2, h2, w2⟩ := hf 2 _ rfl
  replace h0 : DataW.trod enc Tryz.prog W 0 (fun _ => true) true n 3 (([v0, v1, v2].drop 0).take (Tryz.prog.cellsOf 3)) = some y0 := h0
  replace h1 : DataW.trod enc Tryz.prog W 0 (fun _ => true) true n 36 (([v0, v1, v2].drop 1).take (Tryz.prog.cellsOf 36)) = some y1 := h1
  replace h2 : DataW.trod enc Tryz.prog W 0 (fun _ => true) true n 37 (([v0, v1, v2].drop 2).take (Tryz.prog.cellsOf 37)) = some y2 := h2
  replace w1 : ∀ z ∈ y1.1.weights Tryz.prog 36, z ≤ reachBytes := w1
  replace w2 : ∀ z ∈ y2.1.weights Tryz.prog 37, z ≤ reachBytes := w2
  rw [c3] at h0
  rw [c36] at h1
  rw [c37] at h2
  obtain ⟨k, hk, _, hkw⟩ := DataW.trod_int Tryz.underlying3 h0
  simp at hk; subst hk
  obtain ⟨np, nc, names, rfl, l1, hn⟩ := row_ofz textZ Tryz.underlying36 c9 (by decide) h1 w1 (fun m cs y _ h hz => text_ofz Tryz.underlying9 h hz)
  obtain ⟨ap, ac, args, rfl, l2, ha⟩ := row_ofz (fun cs T => TyAt W n cs T ∧ SmallT n T) Tryz.underlying37 c39 (by decide) h2 w2 (fun m cs y hm h hz => (ih m (by omega) cs y h hz).imp fun T hT => ⟨TyAt.le (by omega) hT.1, SmallT.le (by omega) hT.1 hT.2⟩)
  obtain ⟨hn1, hn2⟩ := row_split hn
  obtain ⟨ha1, ha2⟩ := row_split ha
  exact ⟨.mk k names args, ⟨i64_of hkw, l1, l2, np, nc, ap, ac, rfl, hn1, ha1⟩, hn2, ha2⟩
theorem open_type39 {v : Value} {d : DataW H} {pl : List MemPlace} {r : Reach} {b0 : Nat} (hv : Value.okWide Tryz.prog W r b0 39 v) (h : DataW.Trod enc Tryz.prog W 0 (fun _ => true) true 39 v d pl) (hw : ∀ z ∈ d.weights Tryz.prog 39, z ≤ reachBytes) :
    ∃ f cs T, v = .agg cs.toArray ∧ TyAt W f cs T ∧ SmallT f T := by
  obtain ⟨cs, rfl, hsz⟩ := okWide_struct Tryz.underlying39 hv
  obtain ⟨l⟩ := cs
  obtain ⟨fuel, hf⟩ := h
  obtain ⟨T, h1, h2⟩ := ty39_ofz fuel l _ hf hw
  exact ⟨fuel, l, T, rfl, h1, h2⟩
end
end Go.Proofs.YtjchnliaglecoaaGreatDoor
