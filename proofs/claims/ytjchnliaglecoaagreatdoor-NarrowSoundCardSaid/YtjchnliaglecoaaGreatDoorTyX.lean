/- few nodes, walked. Conditions: none. -/
import Derived.Test.YtjchnliaglecoaaGreatDoorNodesBX
import Derived.Test.YtjchnliaglecoaaGreatDoorBase
import Derived.Test.YtjchnliaglecoaaGreatDoorProg
set_option linter.unusedVariables false
set_option linter.unusedSimpArgs false
namespace Go.Proofs.YtjchnliaglecoaaGreatDoor
open Go Go.RowKit Go.Nodes
set_option linter.unusedVariables false
set_option linter.unusedSimpArgs false
/-- What few counts. -/
def fewS : List Nd → Int → Bool
  | [], _ => true
  | x :: l, n => if 8000 < wrap64 (n + wrap64 (wrap64 (4 + (x.kids.length : Int)) + (x.text.size : Int))) then false else fewS l (wrap64 (n + wrap64 (wrap64 (4 + (x.kids.length : Int)) + (x.text.size : Int))))
theorem fewS_drop (ns : List Nd) (k : Nat) (hk : k < ns.length) (m : Int) : fewS (ns.drop k) m = if 8000 < wrap64 (m + wrap64 (wrap64 (4 + (ns[k].kids.length : Int)) + (ns[k].text.size : Int))) then false else fewS (ns.drop (k + 1)) (wrap64 (m + wrap64 (wrap64 (4 + (ns[k].kids.length : Int)) + (ns[k].text.size : Int)))) := by
  rw [List.drop_eq_getElem_cons hk]; rfl
set_option maxHeartbeats 800000 in
theorem few_any (p : Option Addr) (cap : Nat) (ns : List Nd) (w : World) (hw : NodesAt w p ns) :
    Calls Tryz.prog 9 #[.slice p ns.length cap] w fun e w' => e = .returned (.bool (fewS ns 0)) ∧ Below w.heap.size w w' := by
  have Hw := hid hw
  clear hw
  go_enter Tryz.func9, Tryz.ntmps9
  go_wp2
  go_loopw [3, 8] (fun nv iv wr => ∃ (k : Nat) (m : Int), k ≤ ns.length ∧ iv = .int .i64 k ∧ nv = .int .i64 m ∧ Below w.heap.size w wr ∧ Hid (fewS (ns.drop k) m = fewS ns 0)) (fun _ iv _ => ns.length - (intOf iv).toNat)
  case atStart => exact ⟨0, 0, by omega, rfl, rfl, Below.refl _ _, rfl⟩
  case round =>
    obtain ⟨k, m, hk, rfl, rfl, hB, hR⟩ := hrel
    by_cases hlt : k < ns.length
    · have h0 := Hw.out.2.2
      rcases h0 with h0 | ⟨b, o, hp, hb, hc⟩
      · subst h0; simp at hlt
      subst hp
      replace hc := hc k hlt
      have hf := Hw.out.2.1 ns[k] (List.getElem_mem hlt)
      have hln := Hw.out.1
      have hd := fewS_drop ns k hlt m
      generalize ns[k] = x at *
      obtain ⟨kind, text, kp, kcap, kids, place⟩ := x
      simp only at hc hd
      obtain ⟨_, _, hts, hks, _, _⟩ := hf
      simp only at hts hks
      have c0 := cell_later hB hc.1
      have c1 := cell_later hB hc.2.1
      have c2 := cell_later hB hc.2.2.1
      have c3 := cell_later hB hc.2.2.2
      have hk0 : (0 : Int) ≤ (k : Int) := by omega
      have hk1 : (k : Int) < (ns.length : Int) := by omega
      unfold maxLen at hts hks hln
      rw [hR.out] at hd
      have HB := hid hB
      clear hB hc hR
      generalize hz : wrap64 (m + wrap64 (wrap64 (4 + (kids.length : Int)) + (text.size : Int))) = z at *
      have Hz := hid hz
      have Hd := hid hd
      clear hz hd
      go_wp2
      · rename_i h
        rw [Hz.out] at h
        have hd := Hd.out
        rw [if_pos h] at hd
        go_ret
        exact ⟨by rw [hd]; rfl, bA HB.out _⟩
      · rename_i h
        rw [Hz.out] at h
        have hd := Hd.out
        rw [if_neg (by simpa using h)] at hd
        go_roundw
        case rel => exact ⟨k + 1, _, by omega, by go_num, by rw [Hz.out], bA HB.out _, hd.symm⟩
        case measure => simp [intOf]; omega
    · obtain rfl : k = ns.length := by omega
      have hd := hR.out
      rw [List.drop_length] at hd
      go_wp2
      go_ret
      exact ⟨by rw [← hd]; rfl, hB⟩
end Go.Proofs.YtjchnliaglecoaaGreatDoor

/- Types, and rows of whatever lies in rows of cells, as they lie. Conditions: none (over any program). -/
namespace Go.Nodes
open Go Go.RowKit
set_option linter.unusedVariables false
/-- A row of things of n cells each. -/
def RowOf {α : Type} (W : World) (n : Nat) (E : List Value → α → Prop) (p : Option Addr) (xs : List α) : Prop :=
  xs = [] ∨ ∃ b o, p = some ⟨b, o, none⟩ ∧ b < W.heap.size ∧ ∀ (i : Nat) (h : i < xs.length), ∃ vs : List Value, vs.length = n ∧ (∀ (j : Nat) (v : Value), vs[j]? = some v → W.cell? ⟨b, o + i * n + j, none⟩ = some v) ∧ E vs xs[i]
theorem RowOf.later {α : Type} {W W' : World} {n : Nat} {E E' : List Value → α → Prop} {p : Option Addr} {xs : List α} (h : RowOf W n E p xs) (hb : Below W.heap.size W W') (hE : ∀ vs x, x ∈ xs → E vs x → E' vs x) : RowOf W' n E' p xs := by
  rcases h with h | ⟨b, o, hp, hl, hc⟩
  · exact .inl h
  · refine .inr ⟨b, o, hp, Nat.lt_of_lt_of_le hl hb.size, fun i hi => ?_⟩
    obtain ⟨vs, h1, h2, h3⟩ := hc i hi
    exact ⟨vs, h1, fun j v hj => by rw [← h2 j v hj]; simp only [World.cell?, hb.block b hl], hE vs _ (List.getElem_mem hi) h3⟩
/-- What is told apart in a type. -/
inductive Sk where
  | mk (k : Int) (names : List ByteArray) (args : List Sk)
def textE (vs : List Value) (s : ByteArray) : Prop := vs = [.string s] ∧ s.size ≤ maxLen
/-- A type's three cells, as deep as f. -/
def TyAt (W : World) : Nat → List Value → Sk → Prop
  | 0, _, _ => False
  | f + 1, vs, .mk k names args => i64 k ∧ names.length ≤ maxLen ∧ args.length ≤ maxLen ∧ ∃ np nc ap ac, vs = [.int .i64 k, .slice np names.length nc, .slice ap args.length ac] ∧ RowOf W 1 textE np names ∧ RowOf W 3 (TyAt W f) ap args
theorem TyAt.later {W W' : World} (hb : Below W.heap.size W W') : ∀ (f : Nat) (vs : List Value) (T : Sk), TyAt W f vs T → TyAt W' f vs T
  | 0, _, _, h => h.elim
  | f + 1, vs, .mk k names args, h => by
    obtain ⟨h1, h2, h3, np, nc, ap, ac, hv, hn, ha⟩ := h
    exact ⟨h1, h2, h3, np, nc, ap, ac, hv, hn.later hb fun _ _ _ h => h, ha.later hb fun vs x _ h => TyAt.later hb f vs x h⟩
theorem TyAt.more {W : World} : ∀ (f : Nat) (vs : List Value) (T : Sk), TyAt W f vs T → TyAt W (f + 1) vs T
  | 0, _, _, h => h.elim
  | f + 1, vs, .mk k names args, h => by
    obtain ⟨h1, h2, h3, np, nc, ap, ac, hv, hn, ha⟩ := h
    exact ⟨h1, h2, h3, np, nc, ap, ac, hv, hn, ha.later (Below.refl _ _) fun vs x _ h => TyAt.more f vs x h⟩
/-- The cells of one of a row. -/
theorem RowOf.at {α : Type} {W : World} {n : Nat} {E : List Value → α → Prop} {p : Option Addr} {xs : List α} (h : RowOf W n E p xs) {i : Nat} (hi : i < xs.length) : ∃ b o, p = some ⟨b, o, none⟩ ∧ b < W.heap.size ∧ ∃ vs : List Value, vs.length = n ∧ (∀ (j : Nat) (v : Value), vs[j]? = some v → W.cell? ⟨b, o + i * n + j, none⟩ = some v) ∧ E vs xs[i] := by
  rcases h with h | ⟨b, o, hp, hl, hc⟩
  · subst h; simp at hi
  · exact ⟨b, o, hp, hl, hc i hi⟩
theorem text_cells {W : World} {p : Option Addr} {xs : List ByteArray} (h : RowOf W 1 textE p xs) {i : Nat} (hi : i < xs.length) : ∃ b o x, xs[i] = x ∧ p = some ⟨b, o, none⟩ ∧ b < W.heap.size ∧ W.cell? ⟨b, o + i, none⟩ = some (.string x) := by
  obtain ⟨b, o, hp, hl, vs, h1, h2, h3⟩ := h.at hi
  have := h2 0 (.string xs[i]) (by rw [h3.1]; rfl)
  exact ⟨b, o, _, rfl, hp, hl, by simpa using this⟩
theorem ty_cells {W : World} {f : Nat} {p : Option Addr} {xs : List Sk} (h : RowOf W 3 (TyAt W f) p xs) {i : Nat} (hi : i < xs.length) : ∃ b o k np nn nc ap an ac, p = some ⟨b, o, none⟩ ∧ b < W.heap.size ∧
    W.cell? ⟨b, o + i * 3, none⟩ = some (.int .i64 k) ∧ W.cell? ⟨b, o + i * 3 + 1, none⟩ = some (.slice np nn nc) ∧ W.cell? ⟨b, o + i * 3 + 2, none⟩ = some (.slice ap an ac) ∧ TyAt W f [.int .i64 k, .slice np nn nc, .slice ap an ac] xs[i] := by
  obtain ⟨b, o, hp, hl, vs, h1, h2, h3⟩ := h.at hi
  generalize hx : xs[i] = T at *
  cases f with
  | zero => exact h3.elim
  | succ f =>
    obtain ⟨k, names, args⟩ := T
    have h4 := h3
    obtain ⟨_, _, _, np, nc, ap, ac, rfl, _, _⟩ := h4
    exact ⟨b, o, k, np, _, nc, ap, _, ac, hp, hl, by simpa using h2 0 _ rfl, h2 1 _ rfl, h2 2 _ rfl, h3⟩
end Go.Nodes
