/- What a node must be. Conditions: none. -/
import Derived.Test.YtbgjanmheagilaaGreatDoorKfX
import Derived.Test.YtbgjanmheagilaaGreatDoorSx
import Derived.Test.YtbgjanmheagilaaGreatDoorDp
import Derived.Outline
import Derived.Deep.QuietTactic
import Derived.BigQuiet
import Derived.Test.YtbgjanmheagilaaGreatDoorTs
set_option linter.unusedVariables false
set_option linter.unusedSimpArgs false
namespace Go.Proofs.YtbgjanmheagilaaGreatDoor
open Go Go.RowKit Go.Nodes
set_option linter.unusedVariables false
set_option linter.unusedSimpArgs false
def kindAt (ns : List Nd) (n : Int) : Int := match ns[n.toNat]? with
  | some x => x.kind
  | none => 0
def textAt (ns : List Nd) (n : Int) : List UInt8 := match ns[n.toNat]? with
  | some x => x.text.data.toList
  | none => []
def kidAt (ns : List Nd) (n : Int) : Int := match ns[n.toNat]? with
  | some x => x.kids.getD 0 0
  | none => 0
/-- The kind at the end of a base. -/
def rootF (ns : List Nd) : Nat → Int → Int
  | 0, n => kindAt ns n
  | f + 1, n => if kindAt ns n = 18 ∨ kindAt ns n = 19 ∨ kindAt ns n = 20 then rootF ns f (kidAt ns n) else kindAt ns n
def rootK (ns : List Nd) (n : Int) : Int := rootF ns (n.toNat + 1) n
/-- What else is asked of a node. -/
def extraS (ns : List Nd) (x : Nd) : Bool :=
  if x.kind = 3 then x.kids.dropLast.all (fun k => decide (kindAt ns k ≠ 10 ∧ kindAt ns k ≠ 11))
  else if x.kind = 6 ∨ x.kind = 7 then decide (rootK ns (x.kids.getD 0 0) = 17 ∨ rootK ns (x.kids.getD 0 0) = 21)
  else if x.kind = 21 then (if rwW.contains x.text.data.toList then decide (kindAt ns (x.kids.getD 0 0) = 15) && chan1 (textAt ns (x.kids.getD 0 0)) else true)
  else if x.kind = 32 then decide ((x.kids.map (textAt ns)).Nodup)
  else if x.kind = 1 then decide ((x.kids.dropLast.map (fun k => (textAt ns k).take 1)).Nodup)
  else true
def kindsL (ns : List Nd) (l : List Int) : List Nat := l.map fun k => (kindAt ns k).toNat
structure VNode (ns : List Nd) (i : Nat) (x : Nd) : Prop where
  k1 : 1 ≤ x.kind
  k36 : x.kind ≤ 36
  place : 0 ≤ x.place
  kids : ∀ k ∈ x.kids, 0 ≤ k ∧ k < i
  fits : fitsF (formOf x.kind.toNat) (kindsL ns x.kids) = true
  text : textS x.kind.toNat x.text.data.toList x.kids.length = true
  more : extraS ns x = true
def VPre (ns : List Nd) (n : Nat) : Prop := ∀ (i : Nat) (x : Nd), i < n → ns[i]? = some x → VNode ns i x
theorem fits_len {f : List UInt8} {ks : List Nat} (h : fitsF f ks = true) (hd : f ≠ [46]) : f.length - 2 * f.count 42 ≤ ks.length := by
  unfold fitsF at h
  rw [if_neg hd] at h
  split at h
  · cases h
  · omega
/-- A node of these kinds has a kid. -/
theorem has_kid {ns : List Nd} {x : Nd} (hf : fitsF (formOf x.kind.toNat) (kindsL ns x.kids) = true) (hk : x.kind = 1 ∨ x.kind = 6 ∨ x.kind = 7 ∨ x.kind = 18 ∨ x.kind = 19 ∨ x.kind = 20) : 0 < x.kids.length := by
  have hl : (kindsL ns x.kids).length = x.kids.length := by simp [kindsL]
  rw [← hl]
  rcases hk with h | h | h | h | h | h
  all_goals
    rw [h] at hf
    have := fits_len hf (by decide)
    exact Nat.lt_of_lt_of_le (by decide) this
theorem kindAt_of {ns : List Nd} {i : Nat} {x : Nd} (h : ns[i]? = some x) : kindAt ns (i : Int) = x.kind := by
  unfold kindAt; rw [Int.toNat_natCast, h]
theorem kidAt_of {ns : List Nd} {i : Nat} {x : Nd} (h : ns[i]? = some x) : kidAt ns (i : Int) = x.kids.getD 0 0 := by
  unfold kidAt; rw [Int.toNat_natCast, h]
theorem textAt_of {ns : List Nd} {i : Nat} {x : Nd} (h : ns[i]? = some x) : textAt ns (i : Int) = x.text.data.toList := by
  unfold textAt; rw [Int.toNat_natCast, h]
/-- A node's cells. -/
theorem nd_at {w : World} {p : Option Addr} {ns : List Nd} (h : NodesAt w p ns) {i : Nat} (hi : i < ns.length) : ∃ b o, p = some ⟨b, o, none⟩ ∧ b < w.heap.size ∧ ns[i]? = some ns[i] ∧ ns[i].fine w ∧
    w.cell? ⟨b, o + i * 4, none⟩ = some (.int .i64 ns[i].kind) ∧ w.cell? ⟨b, o + i * 4 + 1, none⟩ = some (.string ns[i].text) ∧
    w.cell? ⟨b, o + i * 4 + 2, none⟩ = some (.slice ns[i].kp ns[i].kids.length ns[i].kcap) ∧ w.cell? ⟨b, o + i * 4 + 3, none⟩ = some (.int .i64 ns[i].place) := by
  rcases h.2.2 with h0 | ⟨b, o, hp, hb, hc⟩
  · subst h0; simp at hi
  · exact ⟨b, o, hp, hb, List.getElem?_eq_getElem hi, h.2.1 _ (List.getElem_mem hi), (hc i hi).1, (hc i hi).2.1, (hc i hi).2.2.1, (hc i hi).2.2.2⟩
theorem kid_at {w : World} {x : Nd} (h : x.fine w) {j : Nat} (hj : j < x.kids.length) : ∃ b o, x.kp = some ⟨b, o, none⟩ ∧ b < w.heap.size ∧ w.cell? ⟨b, o + j, none⟩ = some (.int .i64 (x.kids.getD j 0)) := by
  rcases h.2.2.2.2.2 with h0 | ⟨b, o, hp, hb, hc⟩
  · rw [h0] at hj; simp at hj
  · refine ⟨b, o, hp, hb, ?_⟩
    rw [hc j hj]; simp [List.getD, List.getElem?_eq_getElem hj]
end Go.Proofs.YtbgjanmheagilaaGreatDoor

/- The kind at the end of a base, walked. Conditions: the nodes ahead are as they should be. -/
namespace Go.Proofs.YtbgjanmheagilaaGreatDoor
open Go Go.RowKit Go.Nodes
set_option linter.unusedVariables false
set_option linter.unusedSimpArgs false
set_option maxRecDepth 10000 in
set_option maxHeartbeats 4000000 in
theorem root_any (w : World) (p : Option Addr) (c : Nat) (ns : List Nd) (hn : ns.length ≤ 5000) (ha : NodesAt w p ns) (N : Nat) (hN : N ≤ ns.length) (hv : VPre ns N) (n0 : Nat) (hn0 : n0 < N) :
    Calls Tryz.prog 77 #[.slice p ns.length c, .int .i64 (n0 : Int)] w fun e w' => e = .returned (.int .i64 (rootK ns n0)) ∧ Below w.heap.size w w' := by
  have Ha := hid ha
  have Hv := hid hv
  have hN2 : (N : Int) ≤ (ns.length : Int) := by omega
  have hL : (ns.length : Int) ≤ 5000 := by omega
  obtain ⟨L, hLL⟩ : ∃ L, L = ns.length := ⟨_, rfl⟩
  rw [← hLL] at hN2 hL ⊢
  have HL := hid hLL
  clear ha hv hLL
  go_enter Tryz.func77, Tryz.ntmps77
  go_wp2
  go_loop [1] (fun nv => ∃ k : Nat, nv = .int .i64 k ∧ k < N ∧ Hid (∃ f, k < f ∧ rootF ns f k = rootK ns n0)) (fun nv => (intOf nv).toNat)
  case atStart => exact ⟨n0, rfl, hn0, n0 + 1, by omega, by unfold rootK; rw [Int.toNat_natCast]⟩
  case round =>
    obtain ⟨k, rfl, hk, hR⟩ := hrel
    have hkl : k < ns.length := by omega
    obtain ⟨b, o, rfl, hb, hx, hf, c0, c1, c2, c3⟩ := nd_at Ha.out hkl
    have hvn := Hv.out k _ hk hx
    generalize ns[k] = x at *
    obtain ⟨f, hkf, hr⟩ := hR.out
    obtain ⟨f, rfl⟩ : ∃ f', f = f' + 1 := ⟨f - 1, by omega⟩
    have hka := kindAt_of hx
    have hkd := kidAt_of hx
    have k0 : (0 : Int) ≤ (k : Int) := by omega
    have k1 : (k : Int) < (L : Int) := by omega
    by_cases hs : x.kind = 18 ∨ x.kind = 19 ∨ x.kind = 20
    · have hpos := has_kid hvn.fits (by omega)
      obtain ⟨bk, ok, hkp, hbk, hck⟩ := kid_at hf hpos
      have hkin := hvn.kids (x.kids.getD 0 0) (by rw [List.getD, List.getElem?_eq_getElem hpos]; exact List.getElem_mem hpos)
      unfold rootF at hr
      rw [hka, if_pos hs, hkd] at hr
      obtain ⟨z, hz⟩ : ∃ z : Nat, x.kids.getD 0 0 = (z : Int) := ⟨(x.kids.getD 0 0).toNat, by omega⟩
      rw [hz] at hr hkin hck
      rw [Nat.add_zero] at hck
      obtain ⟨q, hq⟩ : ∃ q, q = x.kids.length := ⟨_, rfl⟩
      rw [← hq] at c2 hpos
      rw [hkp] at c2
      have Hr := hid hr
      have q1 : (0 : Int) < (q : Int) := by omega
      clear hR hr hka hkd hvn hf hkp hz hq hx
      generalize x.kind = kx at *
      rcases hs with rfl | rfl | rfl
      all_goals
        go_wp2
        go_round
        case rel => exact ⟨z, rfl, by omega, f, by omega, Hr.out⟩
        case measure => simp [intOf]; omega
    · unfold rootF at hr
      rw [hka, if_neg hs] at hr
      have h18 : (x.kind == 18) = false := by cases e : (x.kind == 18) with
        | false => rfl
        | true => exact absurd (.inl (eq_of_beq e)) hs
      have h19 : (x.kind == 19) = false := by cases e : (x.kind == 19) with
        | false => rfl
        | true => exact absurd (.inr (.inl (eq_of_beq e))) hs
      have h20 : (x.kind == 20) = false := by cases e : (x.kind == 20) with
        | false => rfl
        | true => exact absurd (.inr (.inr (eq_of_beq e))) hs
      have Hr := hid hr
      clear hR hr hka hkd hvn hf hx hs
      generalize x.kind = kx at *
      go_wp2
      go_ret
      exact ⟨by rw [← Hr.out]; rfl, Below.refl _ _⟩
end Go.Proofs.YtbgjanmheagilaaGreatDoor
