/- Types, and rows of whatever lies in rows of cells, as they lie. Conditions: none (over any program). -/
import Derived.Test.YtbgjanmheagilaaDoorNodesB
import Derived.Test.YtbgjanmheagilaaDoorFw
set_option linter.unusedVariables false
set_option linter.unusedSimpArgs false
namespace Go.Nodes
open Go Go.RowKit
set_option linter.unusedVariables false
/-- A row of things of n cells each. -/
def RowOf {α : Type} (W : World) (n : Nat) (E : List Value → α → Prop) (p : Option Addr) (xs : List α) : Prop :=
  xs = [] ∨ ∃ b o, p = some ⟨b, o, none⟩ ∧ b < W.heap.size ∧ ∀ (i : Nat) (h : i < xs.length), ∃ vs : List Value, vs.length = n ∧ (∀ (j : Nat) (v : Value), vs[j]? = some v → W.cell? ⟨b, o + i * n + j, none⟩ = some v) ∧ E vs xs[i]
theorem RowOf.later {α : Type} {W W' : World} {n : Nat} {E E' : List Value → α → Prop} {p : Option Addr} {xs : List α} (h : RowOf W n E p xs) (hb : Below W.heap.size W W') (hE : ∀ vs x, x ∈ xs → E vs x → E' vs x) : RowOf W' n E' p xs := by
  rcases h with h | ⟨b, o, hp, hl, hc⟩
  · exact .inl h
  · refine .inr ⟨b, o, hp, Nat.lt_of_lt_of_le hl hb.size, fun i hi => ?_⟩
    obtain ⟨vs, h1, h2, h3⟩ := hc i hi
    exact ⟨vs, h1, fun j v hj => by rw [← h2 j v hj]; simp only [World.cell?, hb.block b hl], hE vs _ (List.getElem_mem hi) h3⟩
/-- What is told apart in a type. -/
inductive Sk where
  | mk (k : Int) (names : List ByteArray) (args : List Sk)
def textE (vs : List Value) (s : ByteArray) : Prop := vs = [.string s] ∧ s.size ≤ maxLen
/-- A type's three cells, as deep as f. -/
def TyAt (W : World) : Nat → List Value → Sk → Prop
  | 0, _, _ => False
  | f + 1, vs, .mk k names args => i64 k ∧ names.length ≤ maxLen ∧ args.length ≤ maxLen ∧ ∃ np nc ap ac, vs = [.int .i64 k, .slice np names.length nc, .slice ap args.length ac] ∧ RowOf W 1 textE np names ∧ RowOf W 3 (TyAt W f) ap args
theorem TyAt.later {W W' : World} (hb : Below W.heap.size W W') : ∀ (f : Nat) (vs : List Value) (T : Sk), TyAt W f vs T → TyAt W' f vs T
  | 0, _, _, h => h.elim
  | f + 1, vs, .mk k names args, h => by
    obtain ⟨h1, h2, h3, np, nc, ap, ac, hv, hn, ha⟩ := h
    exact ⟨h1, h2, h3, np, nc, ap, ac, hv, hn.later hb fun _ _ _ h => h, ha.later hb fun vs x _ h => TyAt.later hb f vs x h⟩
theorem TyAt.more {W : World} : ∀ (f : Nat) (vs : List Value) (T : Sk), TyAt W f vs T → TyAt W (f + 1) vs T
  | 0, _, _, h => h.elim
  | f + 1, vs, .mk k names args, h => by
    obtain ⟨h1, h2, h3, np, nc, ap, ac, hv, hn, ha⟩ := h
    exact ⟨h1, h2, h3, np, nc, ap, ac, hv, hn, ha.later (Below.refl _ _) fun vs x _ h => TyAt.more f vs x h⟩
/-- The cells of one of a row. -/
theorem RowOf.at {α : Type} {W : World} {n : Nat} {E : List Value → α → Prop} {p : Option Addr} {xs : List α} (h : RowOf W n E p xs) {i : Nat} (hi : i < xs.length) : ∃ b o, p = some ⟨b, o, none⟩ ∧ b < W.heap.size ∧ ∃ vs : List Value, vs.length = n ∧ (∀ (j : Nat) (v : Value), vs[j]? = some v → W.cell? ⟨b, o + i * n + j, none⟩ = some v) ∧ E vs xs[i] := by
  rcases h with h | ⟨b, o, hp, hl, hc⟩
  · subst h; simp at hi
  · exact ⟨b, o, hp, hl, hc i hi⟩
end Go.Nodes
