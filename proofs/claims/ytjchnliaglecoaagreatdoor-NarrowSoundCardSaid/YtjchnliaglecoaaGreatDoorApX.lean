/- What a node must be. Conditions: none. -/
import Derived.Test.YtjchnliaglecoaaGreatDoorKfX
import Derived.Test.YtjchnliaglecoaaGreatDoorSx
import Derived.Test.YtjchnliaglecoaaGreatDoorDp
import Derived.Outline
import Derived.Deep.QuietTactic
import Derived.BigQuiet
import Derived.Test.YtjchnliaglecoaaGreatDoorTs
import Derived.Deep.RegionHeld3
import Derived.Test.YtjchnliaglecoaaGreatDoorCh
import Derived.Laws.AppendOwn
import Derived.Test.YtjchnliaglecoaaGreatDoorDw
set_option linter.unusedVariables false
set_option linter.unusedSimpArgs false
namespace Go.Proofs.YtjchnliaglecoaaGreatDoor
open Go Go.RowKit Go.Nodes
set_option linter.unusedVariables false
set_option linter.unusedSimpArgs false
def kindAt (ns : List Nd) (n : Int) : Int := match ns[n.toNat]? with
  | some x => x.kind
  | none => 0
def textAt (ns : List Nd) (n : Int) : List UInt8 := match ns[n.toNat]? with
  | some x => x.text.data.toList
  | none => []
def kidAt (ns : List Nd) (n : Int) : Int := match ns[n.toNat]? with
  | some x => x.kids.getD 0 0
  | none => 0
/-- The kind at the end of a base. -/
def rootF (ns : List Nd) : Nat → Int → Int
  | 0, n => kindAt ns n
  | f + 1, n => if kindAt ns n = 18 ∨ kindAt ns n = 19 ∨ kindAt ns n = 20 then rootF ns f (kidAt ns n) else kindAt ns n
def rootK (ns : List Nd) (n : Int) : Int := rootF ns (n.toNat + 1) n
/-- What else is asked of a node. -/
def extraS (ns : List Nd) (x : Nd) : Bool :=
  if x.kind = 3 then x.kids.dropLast.all (fun k => decide (kindAt ns k ≠ 10 ∧ kindAt ns k ≠ 11))
  else if x.kind = 6 ∨ x.kind = 7 then decide (rootK ns (x.kids.getD 0 0) = 17 ∨ rootK ns (x.kids.getD 0 0) = 21)
  else if x.kind = 21 then (if rwW.contains x.text.data.toList then decide (kindAt ns (x.kids.getD 0 0) = 15) && chan1 (textAt ns (x.kids.getD 0 0)) else true)
  else if x.kind = 32 then decide ((x.kids.map (textAt ns)).Nodup)
  else if x.kind = 1 then decide ((x.kids.dropLast.map (fun k => (textAt ns k).take 1)).Nodup)
  else true
def kindsL (ns : List Nd) (l : List Int) : List Nat := l.map fun k => (kindAt ns k).toNat
structure VNode (ns : List Nd) (i : Nat) (x : Nd) : Prop where
  k1 : 1 ≤ x.kind
  k36 : x.kind ≤ 36
  place : 0 ≤ x.place
  kids : ∀ k ∈ x.kids, 0 ≤ k ∧ k < i
  fits : fitsF (formOf x.kind.toNat) (kindsL ns x.kids) = true
  text : textS x.kind.toNat x.text.data.toList x.kids.length = true
  more : extraS ns x = true
def VPre (ns : List Nd) (n : Nat) : Prop := ∀ (i : Nat) (x : Nd), i < n → ns[i]? = some x → VNode ns i x
theorem fits_len {f : List UInt8} {ks : List Nat} (h : fitsF f ks = true) (hd : f ≠ [46]) : f.length - 2 * f.count 42 ≤ ks.length := by
  unfold fitsF at h
  rw [if_neg hd] at h
  split at h
  · cases h
  · omega
/-- A node of these kinds has a kid. -/
theorem has_kid {ns : List Nd} {x : Nd} (hf : fitsF (formOf x.kind.toNat) (kindsL ns x.kids) = true) (hk : x.kind = 1 ∨ x.kind = 6 ∨ x.kind = 7 ∨ x.kind = 18 ∨ x.kind = 19 ∨ x.kind = 20) : 0 < x.kids.length := by
  have hl : (kindsL ns x.kids).length = x.kids.length := by simp [kindsL]
  rw [← hl]
  rcases hk with h | h | h | h | h | h
  all_goals
    rw [h] at hf
    have := fits_len hf (by decide)
    exact Nat.lt_of_lt_of_le (by decide) this
theorem kindAt_of {ns : List Nd} {i : Nat} {x : Nd} (h : ns[i]? = some x) : kindAt ns (i : Int) = x.kind := by
  unfold kindAt; rw [Int.toNat_natCast, h]
theorem kidAt_of {ns : List Nd} {i : Nat} {x : Nd} (h : ns[i]? = some x) : kidAt ns (i : Int) = x.kids.getD 0 0 := by
  unfold kidAt; rw [Int.toNat_natCast, h]
theorem textAt_of {ns : List Nd} {i : Nat} {x : Nd} (h : ns[i]? = some x) : textAt ns (i : Int) = x.text.data.toList := by
  unfold textAt; rw [Int.toNat_natCast, h]
/-- A node's cells. -/
theorem nd_at {w : World} {p : Option Addr} {ns : List Nd} (h : NodesAt w p ns) {i : Nat} (hi : i < ns.length) : ∃ b o, p = some ⟨b, o, none⟩ ∧ b < w.heap.size ∧ ns[i]? = some ns[i] ∧ ns[i].fine w ∧
    w.cell? ⟨b, o + i * 4, none⟩ = some (.int .i64 ns[i].kind) ∧ w.cell? ⟨b, o + i * 4 + 1, none⟩ = some (.string ns[i].text) ∧
    w.cell? ⟨b, o + i * 4 + 2, none⟩ = some (.slice ns[i].kp ns[i].kids.length ns[i].kcap) ∧ w.cell? ⟨b, o + i * 4 + 3, none⟩ = some (.int .i64 ns[i].place) := by
  rcases h.2.2 with h0 | ⟨b, o, hp, hb, hc⟩
  · subst h0; simp at hi
  · exact ⟨b, o, hp, hb, List.getElem?_eq_getElem hi, h.2.1 _ (List.getElem_mem hi), (hc i hi).1, (hc i hi).2.1, (hc i hi).2.2.1, (hc i hi).2.2.2⟩
theorem kid_at {w : World} {x : Nd} (h : x.fine w) {j : Nat} (hj : j < x.kids.length) : ∃ b o, x.kp = some ⟨b, o, none⟩ ∧ b < w.heap.size ∧ w.cell? ⟨b, o + j, none⟩ = some (.int .i64 (x.kids.getD j 0)) := by
  rcases h.2.2.2.2.2 with h0 | ⟨b, o, hp, hb, hc⟩
  · rw [h0] at hj; simp at hj
  · refine ⟨b, o, hp, hb, ?_⟩
    rw [hc j hj]; simp [List.getD, List.getElem?_eq_getElem hj]
end Go.Proofs.YtjchnliaglecoaaGreatDoor

/- The kind at the end of a base, walked. Conditions: the nodes ahead are as they should be. -/
namespace Go.Proofs.YtjchnliaglecoaaGreatDoor
open Go Go.RowKit Go.Nodes
set_option linter.unusedVariables false
set_option linter.unusedSimpArgs false
set_option maxRecDepth 10000 in
set_option maxHeartbeats 4000000 in
theorem root_any (w : World) (p : Option Addr) (c : Nat) (ns : List Nd) (hn : ns.length ≤ 5000) (ha : NodesAt w p ns) (N : Nat) (hN : N ≤ ns.length) (hv : VPre ns N) (n0 : Nat) (hn0 : n0 < N) :
    Calls Tryz.prog 119 #[.slice p ns.length c, .int .i64 (n0 : Int)] w fun e w' => e = .returned (.int .i64 (rootK ns n0)) ∧ Below w.heap.size w w' := by
  have Ha := hid ha
  have Hv := hid hv
  have hN2 : (N : Int) ≤ (ns.length : Int) := by omega
  have hL : (ns.length : Int) ≤ 5000 := by omega
  obtain ⟨L, hLL⟩ : ∃ L, L = ns.length := ⟨_, rfl⟩
  rw [← hLL] at hN2 hL ⊢
  have HL := hid hLL
  clear ha hv hLL
  go_enter Tryz.func119, Tryz.ntmps119
  go_wp2
  go_loop [1] (fun nv => ∃ k : Nat, nv = .int .i64 k ∧ k < N ∧ Hid (∃ f, k < f ∧ rootF ns f k = rootK ns n0)) (fun nv => (intOf nv).toNat)
  case atStart => exact ⟨n0, rfl, hn0, n0 + 1, by omega, by unfold rootK; rw [Int.toNat_natCast]⟩
  case round =>
    obtain ⟨k, rfl, hk, hR⟩ := hrel
    have hkl : k < ns.length := by omega
    obtain ⟨b, o, rfl, hb, hx, hf, c0, c1, c2, c3⟩ := nd_at Ha.out hkl
    have hvn := Hv.out k _ hk hx
    generalize ns[k] = x at *
    obtain ⟨f, hkf, hr⟩ := hR.out
    obtain ⟨f, rfl⟩ : ∃ f', f = f' + 1 := ⟨f - 1, by omega⟩
    have hka := kindAt_of hx
    have hkd := kidAt_of hx
    have k0 : (0 : Int) ≤ (k : Int) := by omega
    have k1 : (k : Int) < (L : Int) := by omega
    by_cases hs : x.kind = 18 ∨ x.kind = 19 ∨ x.kind = 20
    · have hpos := has_kid hvn.fits (by omega)
      obtain ⟨bk, ok, hkp, hbk, hck⟩ := kid_at hf hpos
      have hkin := hvn.kids (x.kids.getD 0 0) (by rw [List.getD, List.getElem?_eq_getElem hpos]; exact List.getElem_mem hpos)
      unfold rootF at hr
      rw [hka, if_pos hs, hkd] at hr
      obtain ⟨z, hz⟩ : ∃ z : Nat, x.kids.getD 0 0 = (z : Int) := ⟨(x.kids.getD 0 0).toNat, by omega⟩
      rw [hz] at hr hkin hck
      rw [Nat.add_zero] at hck
      obtain ⟨q, hq⟩ : ∃ q, q = x.kids.length := ⟨_, rfl⟩
      rw [← hq] at c2 hpos
      rw [hkp] at c2
      have Hr := hid hr
      have q1 : (0 : Int) < (q : Int) := by omega
      clear hR hr hka hkd hvn hf hkp hz hq hx
      generalize x.kind = kx at *
      rcases hs with rfl | rfl | rfl
      all_goals
        go_wp2
        go_round
        case rel => exact ⟨z, rfl, by omega, f, by omega, Hr.out⟩
        case measure => simp [intOf]; omega
    · unfold rootF at hr
      rw [hka, if_neg hs] at hr
      have h18 : (x.kind == 18) = false := by cases e : (x.kind == 18) with
        | false => rfl
        | true => exact absurd (.inl (eq_of_beq e)) hs
      have h19 : (x.kind == 19) = false := by cases e : (x.kind == 19) with
        | false => rfl
        | true => exact absurd (.inr (.inl (eq_of_beq e))) hs
      have h20 : (x.kind == 20) = false := by cases e : (x.kind == 20) with
        | false => rfl
        | true => exact absurd (.inr (.inr (eq_of_beq e))) hs
      have Hr := hid hr
      clear hR hr hka hkd hvn hf hx hs
      generalize x.kind = kx at *
      go_wp2
      go_ret
      exact ⟨by rw [← Hr.out]; rfl, Below.refl _ _⟩
end Go.Proofs.YtjchnliaglecoaaGreatDoor

/- What else is asked of a node, walked: the reference's, of most kinds. Conditions: the nodes ahead are as they should be. -/
namespace Go.Proofs.YtjchnliaglecoaaGreatDoor
open Go Go.RowKit Go.Nodes
set_option linter.unusedVariables false
set_option linter.unusedSimpArgs false
theorem ne_beq {a b : Int} (h : a ≠ b) : (a == b) = false := by
  cases e : (a == b) with
  | false => rfl
  | true => exact absurd (eq_of_beq e) h
set_option maxRecDepth 10000 in
set_option maxHeartbeats 4000000 in
theorem extra_other (w : World) (p : Option Addr) (c : Nat) (ns : List Nd) (hL : (ns.length : Int) ≤ 5000) (ha : NodesAt w p ns) (n : Nat) (hn : n < ns.length) (hk : ns[n].kind ≠ 1 ∧ ns[n].kind ≠ 3 ∧ ns[n].kind ≠ 6 ∧ ns[n].kind ≠ 7 ∧ ns[n].kind ≠ 21 ∧ ns[n].kind ≠ 32) :
    Calls Tryz.prog 66 #[.slice p ns.length c, .int .i64 (n : Int)] w fun e w' => e = .returned (.bool true) ∧ Below w.heap.size w w' := by
  obtain ⟨b, o, rfl, hb, hx, hf, c0, c1, c2, c3⟩ := nd_at ha hn
  have n0 : (0 : Int) ≤ (n : Int) := by omega
  have n1 : (n : Int) < (ns.length : Int) := by omega
  have e1 := ne_beq hk.1
  have e2 := ne_beq hk.2.1
  have e3 := ne_beq hk.2.2.1
  have e4 := ne_beq hk.2.2.2.1
  have e5 := ne_beq hk.2.2.2.2.1
  have e6 := ne_beq hk.2.2.2.2.2
  clear hk ha hx hf
  generalize ns[n] = x at *
  generalize ns.length = L at *
  generalize x.kind = kx at *
  go_enter Tryz.func66, Tryz.ntmps66
  go_wp2
  go_ret
  exact ⟨rfl, by repeat (first | exact Below.refl _ _ | refine bG ?_ _ | refine bI ?_ _ _ | refine bA ?_ _)⟩
set_option maxRecDepth 10000 in
set_option maxHeartbeats 4000000 in
theorem extra_base (w : World) (p : Option Addr) (c : Nat) (ns : List Nd) (hL : (ns.length : Int) ≤ 5000) (ha : NodesAt w p ns) (n : Nat) (hn : n < ns.length) (hv : VPre ns n) (hk : ns[n].kind = 6 ∨ ns[n].kind = 7) (hfit : 0 < ns[n].kids.length) (hkid : ∀ k ∈ ns[n].kids, 0 ≤ k ∧ k < n) :
    Calls Tryz.prog 66 #[.slice p ns.length c, .int .i64 (n : Int)] w fun e w' => e = .returned (.bool (decide (rootK ns (ns[n].kids.getD 0 0) = 17 ∨ rootK ns (ns[n].kids.getD 0 0) = 21))) ∧ Below w.heap.size w w' := by
  obtain ⟨b, o, hp, hb, hx, hf, c0, c1, c2, c3⟩ := nd_at ha hn
  have n0 : (0 : Int) ≤ (n : Int) := by omega
  have n1 : (n : Int) < (ns.length : Int) := by omega
  obtain ⟨bk, ok, hkp, hbk, hck⟩ := kid_at hf hfit
  have hkin := hkid (ns[n].kids.getD 0 0) (by rw [List.getD, List.getElem?_eq_getElem hfit]; exact List.getElem_mem hfit)
  obtain ⟨z, hz⟩ : ∃ z : Nat, ns[n].kids.getD 0 0 = (z : Int) := ⟨(ns[n].kids.getD 0 0).toNat, by omega⟩
  rw [hz] at hck hkin ⊢
  rw [Nat.add_zero] at hck
  have Hroot : Hid (∀ w', Below w.heap.size w w' → Calls Tryz.prog 119 #[.slice p ns.length c, .int .i64 (z : Int)] w' fun e w2 => e = .returned (.int .i64 (rootK ns z)) ∧ Below w'.heap.size w' w2) := hid fun w' h => root_any w' p c ns (by omega) (nodes_later h ha) n (by omega) hv z (by omega)
  subst hp
  obtain ⟨q, hq⟩ : ∃ q, q = ns[n].kids.length := ⟨_, rfl⟩
  rw [← hq] at c2 hfit
  rw [hkp] at c2
  have q1 : (0 : Int) < (q : Int) := by omega
  clear ha hx hf hkid hkp hz hq hv
  generalize ns[n] = x at *
  generalize rootK ns (z : Int) = r at *
  generalize ns.length = L at *
  generalize x.kind = kx at *
  by_cases r17 : r = 17
  · subst r17
    rcases hk with rfl | rfl
    all_goals
      go_enter Tryz.func66, Tryz.ntmps66
      go_wp2_with (go_at_call 119; ((with_reducible refine (Hroot.out _ ?_).mono ?_)); rotate_left; rintro e w' ⟨rfl, hb⟩; obtain ⟨g1, rfl⟩ := bout hb; clear hb)
      all_goals first
        | (go_ret; exact ⟨by simp, by repeat (first | exact Below.refl _ _ | refine bG ?_ _ | refine bI ?_ _ _ | refine bA ?_ _)⟩)
        | (repeat (first | exact Below.refl _ _ | refine bG ?_ _ | refine bI ?_ _ _ | refine bA ?_ _))
  · have r17' := ne_beq r17
    by_cases r21 : r = 21
    · subst r21
      rcases hk with rfl | rfl
      all_goals
        go_enter Tryz.func66, Tryz.ntmps66
        go_wp2_with (go_at_call 119; ((with_reducible refine (Hroot.out _ ?_).mono ?_)); rotate_left; rintro e w' ⟨rfl, hb⟩; obtain ⟨g1, rfl⟩ := bout hb; clear hb)
        all_goals first
          | (go_ret; exact ⟨by simp, by repeat (first | exact Below.refl _ _ | refine bG ?_ _ | refine bI ?_ _ _ | refine bA ?_ _)⟩)
          | (repeat (first | exact Below.refl _ _ | refine bG ?_ _ | refine bI ?_ _ _ | refine bA ?_ _))
    · have r21' := ne_beq r21
      have hd : decide (r = 17 ∨ r = 21) = false := decide_eq_false (by omega)
      rw [hd]
      clear hd r17 r21
      rcases hk with rfl | rfl
      all_goals
        go_enter Tryz.func66, Tryz.ntmps66
        go_wp2_with (go_at_call 119; ((with_reducible refine (Hroot.out _ ?_).mono ?_)); rotate_left; rintro e w' ⟨rfl, hb⟩; obtain ⟨g1, rfl⟩ := bout hb; clear hb)
        all_goals first
          | (go_ret; exact ⟨rfl, by repeat (first | exact Below.refl _ _ | refine bG ?_ _ | refine bI ?_ _ _ | refine bA ?_ _)⟩)
          | (repeat (first | exact Below.refl _ _ | refine bG ?_ _ | refine bI ?_ _ _ | refine bA ?_ _))
end Go.Proofs.YtjchnliaglecoaaGreatDoor

/- What else is asked of a block and of what is there from the beginning, walked: the reference's. Conditions: the nodes ahead are as they should be. -/
namespace Go.Proofs.YtjchnliaglecoaaGreatDoor
open Go Go.RowKit Go.Nodes
set_option linter.unusedVariables false
set_option linter.unusedSimpArgs false
def blockP (ns : List Nd) (k : Int) : Bool := decide (kindAt ns k ≠ 10 ∧ kindAt ns k ≠ 11)
theorem dropLast_at {α : Type} (l : List α) (j : Nat) (hj : j + 1 < l.length) : l.dropLast.drop j = l[j] :: l.dropLast.drop (j + 1) := by
  rw [List.drop_eq_getElem_cons (by simp; omega)]
  simp
theorem dropLast_end {α : Type} (l : List α) (j : Nat) (hj : l.length ≤ j + 1) : l.dropLast.drop j = [] := List.drop_eq_nil_of_le (by simp; omega)
set_option maxRecDepth 10000 in
set_option maxHeartbeats 4000000 in
theorem extra_block (w : World) (p : Option Addr) (c : Nat) (ns : List Nd) (hL : (ns.length : Int) ≤ 5000) (ha : NodesAt w p ns) (n : Nat) (hn : n < ns.length) (hk : ns[n].kind = 3) (hks : (ns[n].kids.length : Int) ≤ 20000) (hkid : ∀ k ∈ ns[n].kids, 0 ≤ k ∧ k < n) :
    Calls Tryz.prog 66 #[.slice p ns.length c, .int .i64 (n : Int)] w fun e w' => e = .returned (.bool (ns[n].kids.dropLast.all (blockP ns))) ∧ Below w.heap.size w w' := by
  obtain ⟨b, o, hp, hb, hx, hf, c0, c1, c2, c3⟩ := nd_at ha hn
  subst hp
  have n0 : (0 : Int) ≤ (n : Int) := by omega
  have n1 : (n : Int) < (ns.length : Int) := by omega
  have Hkid := hid hkid
  have Hf := hid hf
  have Ha := hid ha
  have hns : ns.length ≤ 5000 := by omega
  obtain ⟨L, hLL⟩ : ∃ L, L = ns.length := ⟨_, rfl⟩
  rw [← hLL] at hL n1 hns ⊢
  rw [hk] at c0
  have HL := hid hLL
  clear hx hf hkid ha hk hLL
  generalize ns[n] = x at *
  obtain ⟨q, hq⟩ : ∃ q, q = x.kids.length := ⟨_, rfl⟩
  rw [← hq] at c2 hks
  have Hq := hid hq
  clear hq
  go_enter Tryz.func66, Tryz.ntmps66
  go_wp2
  go_loop [29] (fun iv => ∃ j : Nat, iv = .int .i64 j ∧ j ≤ q ∧ Hid ((x.kids.dropLast.drop j).all (blockP ns) = x.kids.dropLast.all (blockP ns))) (fun iv => q - (intOf iv).toNat)
  case atStart => exact ⟨0, rfl, by omega, rfl⟩
  case round =>
    obtain ⟨j, rfl, hj, hR⟩ := hrel
    by_cases hjq : j < q
    · have hjl : j < x.kids.length := by have := Hq.out; omega
      obtain ⟨bk, ok, hkp, hbk, hck⟩ := kid_at Hf.out hjl
      have hge : x.kids.getD j 0 = x.kids[j] := by simp [List.getD, List.getElem?_eq_getElem hjl]
      have hkin := Hkid.out x.kids[j] (List.getElem_mem hjl)
      rw [hge] at hck
      have j0 : (0 : Int) ≤ (j : Int) := by omega
      have j1 : (j : Int) < (q : Int) := by omega
      by_cases hlast : j + 1 < q
      · have hd := dropLast_at x.kids j (by have := Hq.out; omega)
        have hr := hR.out
        rw [hd, List.all_cons] at hr
        obtain ⟨z, hz⟩ : ∃ z : Nat, x.kids[j] = (z : Int) := ⟨(x.kids[j]).toNat, by omega⟩
        rw [hz] at hr hkin hck
        have hzl : z < ns.length := by omega
        obtain ⟨b2, o2, hp2, hb2, hx2, hf2, d0, d1, d2, d3⟩ := nd_at Ha.out hzl
        cases hp2
        have hka := kindAt_of hx2
        have hP : blockP ns (z : Int) = decide (ns[z].kind ≠ 10 ∧ ns[z].kind ≠ 11) := by unfold blockP; rw [hka]
        rw [hP] at hr
        have z0 : (0 : Int) ≤ (z : Int) := by omega
        have z1 : (z : Int) < (L : Int) := by have := HL.out; omega
        have j2 : (j : Int) < (q : Int) - 1 := by omega
        have Hr := hid hr
        have hkp2 := hid hkp
        rw [hkp] at c2
        clear hR hr hd hge hx2 hf2 hka hP hz hjl hkp d1 d2 d3
        generalize ns[z] = y at *
        generalize y.kind = ky at *
        by_cases y10 : ky = 10
        · have HR : Hid (x.kids.dropLast.all (blockP ns) = false) := hid (by rw [← Hr.out, y10]; rfl)
          subst y10
          clear Hr
          rw [hkp2.out]
          go_wp2
          go_ret
          exact ⟨by rw [HR.out]; rfl, by repeat (first | exact Below.refl _ _ | refine bG ?_ _ | refine bI ?_ _ _ | refine bA ?_ _)⟩
        · have y10' := ne_beq y10
          by_cases y11 : ky = 11
          · have HR : Hid (x.kids.dropLast.all (blockP ns) = false) := hid (by rw [← Hr.out, y11]; rfl)
            subst y11
            clear Hr
            rw [hkp2.out]
            go_wp2
            go_ret
            exact ⟨by rw [HR.out]; rfl, by repeat (first | exact Below.refl _ _ | refine bG ?_ _ | refine bI ?_ _ _ | refine bA ?_ _)⟩
          · have y11' := ne_beq y11
            have HR : Hid ((x.kids.dropLast.drop (j + 1)).all (blockP ns) = x.kids.dropLast.all (blockP ns)) := hid (by
              rw [← Hr.out, decide_eq_true (⟨y10, y11⟩ : ky ≠ 10 ∧ ky ≠ 11), Bool.true_and])
            clear Hr y10 y11
            rw [hkp2.out]
            go_wp2
            go_round
            case rel => exact ⟨j + 1, by go_num, by omega, HR⟩
            case measure => simp [intOf]; omega
      · have hd := dropLast_end x.kids j (by have := Hq.out; omega)
        have hd2 := dropLast_end x.kids (j + 1) (by have := Hq.out; omega)
        have hr := hR.out
        rw [hd] at hr
        have Hr : Hid ((x.kids.dropLast.drop (j + 1)).all (blockP ns) = x.kids.dropLast.all (blockP ns)) := hid (by rw [hd2]; exact hr)
        have j2 : ¬ (j : Int) < (q : Int) - 1 := by omega
        have hkp2 := hid hkp
        rw [hkp] at c2
        generalize x.kids[j] = u at *
        clear hR hr hd hd2 hge hkp
        rw [hkp2.out]
        go_wp2
        go_round
        case rel => exact ⟨j + 1, by go_num, by omega, Hr⟩
        case measure => simp [intOf]; omega
    · obtain rfl : j = q := by omega
      have hr := hR.out
      rw [dropLast_end x.kids j (by have := Hq.out; omega)] at hr
      have Hr := hid (show x.kids.dropLast.all (blockP ns) = true from hr.symm)
      have j1 : ¬ (j : Int) < (j : Int) := by omega
      clear hR hr
      go_wp2
      go_ret
      exact ⟨by rw [Hr.out]; rfl, by repeat (first | exact Below.refl _ _ | refine bG ?_ _ | refine bI ?_ _ _ | refine bA ?_ _)⟩
end Go.Proofs.YtjchnliaglecoaaGreatDoor

/- What else is asked of what is there from the beginning, walked: the reference's. Conditions: the nodes ahead are as they should be. -/
namespace Go.Proofs.YtjchnliaglecoaaGreatDoor
open Go Go.RowKit Go.Nodes
set_option linter.unusedVariables false
set_option linter.unusedSimpArgs false
def builtinP (ns : List Nd) (x : Nd) : Bool := if rwW.contains x.text.data.toList then decide (kindAt ns (x.kids.getD 0 0) = 15) && chan1 (textAt ns (x.kids.getD 0 0)) else true
set_option maxRecDepth 10000 in
set_option maxHeartbeats 4000000 in
theorem extra_builtin (w : World) (p : Option Addr) (c : Nat) (ns : List Nd) (hL : (ns.length : Int) ≤ 5000) (ha : NodesAt w p ns) (n : Nat) (hn : n < ns.length) (hk : ns[n].kind = 21) (hks : ns[n].kids.length ≤ 20000) (hkid : ∀ k ∈ ns[n].kids, 0 ≤ k ∧ k < n)
    (hpos : rwW.contains ns[n].text.data.toList = true → 0 < ns[n].kids.length) :
    Calls Tryz.prog 66 #[.slice p ns.length c, .int .i64 (n : Int)] w fun e w' => e = .returned (.bool (builtinP ns ns[n])) ∧ Below w.heap.size w w' := by
  obtain ⟨b, o, hp, hb, hx, hf, c0, c1, c2, c3⟩ := nd_at ha hn
  subst hp
  have n0 : (0 : Int) ≤ (n : Int) := by omega
  have n1 : (n : Int) < (ns.length : Int) := by omega
  rw [hk] at c0
  by_cases hrw : rwW.contains ns[n].text.data.toList = true
  · have hfit := hpos hrw
    obtain ⟨bk, ok, hkp, hbk, hck⟩ := kid_at hf hfit
    have hkin := hkid (ns[n].kids.getD 0 0) (by rw [List.getD, List.getElem?_eq_getElem hfit]; exact List.getElem_mem hfit)
    have hB : builtinP ns ns[n] = (decide (kindAt ns (ns[n].kids.getD 0 0) = 15) && chan1 (textAt ns (ns[n].kids.getD 0 0))) := by unfold builtinP; rw [if_pos hrw]
    obtain ⟨z, hz⟩ : ∃ z : Nat, ns[n].kids.getD 0 0 = (z : Int) := ⟨(ns[n].kids.getD 0 0).toNat, by omega⟩
    rw [hz] at hck hkin hB
    rw [Nat.add_zero] at hck
    have hzl : z < ns.length := by omega
    obtain ⟨b2, o2, hp2, hb2, hx2, hf2, d0, d1, d2, d3⟩ := nd_at ha hzl
    cases hp2
    rw [kindAt_of hx2, textAt_of hx2] at hB
    have Hchan : Hid (∀ w', Calls Tryz.prog 115 #[.string ns[z].text] w' fun e w2 => e = .returned (.bool (chan1 ns[z].text.data.toList)) ∧ Below w'.heap.size w' w2) := hid fun w' => rchan_any _ w'
    have hwords : (ns[n].text.toList == [114, 101, 97, 100]) = true ∨ ((ns[n].text.toList == [114, 101, 97, 100]) = false ∧ (ns[n].text.toList == [119, 114, 105, 116, 101]) = true) := by
      rw [ByteArray.toList_eq]
      simp only [rwW, List.contains_cons, List.contains_nil, Bool.or_false, Bool.or_eq_true] at hrw
      cases e : (ns[n].text.data.toList == [114, 101, 97, 100]) with
      | true => exact .inl rfl
      | false => rw [e] at hrw; exact .inr ⟨rfl, by simpa using hrw⟩
    have HB := hid hB
    have z0 : (0 : Int) ≤ (z : Int) := by omega
    have z1 : (z : Int) < (ns.length : Int) := by omega
    obtain ⟨q, hq⟩ : ∃ q, q = ns[n].kids.length := ⟨_, rfl⟩
    rw [← hq] at c2 hfit
    rw [hkp] at c2
    have q1 : (0 : Int) < (q : Int) := by omega
    clear ha hx hf hkid hkp hz hq hpos hx2 hf2 hrw hB hk hks
    generalize builtinP ns ns[n] = R at *
    generalize ns[n] = x at *
    generalize ns[z] = y at *
    generalize ns.length = L at *
    generalize y.kind = ky at *
    generalize chan1 y.text.data.toList = ch at *
    by_cases h15 : ky = 15
    · subst h15
      have HR : Hid (R = ch) := hid (by rw [HB.out]; rfl)
      clear HB
      rcases hwords with hw1 | ⟨hw1, hw2⟩
      all_goals
        go_enter Tryz.func66, Tryz.ntmps66
        go_wp2_with (go_at_call 115; ((with_reducible refine (Hchan.out _).mono ?_)); rintro e w' ⟨rfl, hb⟩; obtain ⟨g1, rfl⟩ := bout hb; clear hb)
        go_ret
        exact ⟨by rw [HR.out]; rfl, by repeat (first | exact Below.refl _ _ | refine bG ?_ _ | refine bI ?_ _ _ | refine bA ?_ _ | refine bD ?_ | refine bN ?_ _)⟩
    · have h15' := ne_beq h15
      have HR : Hid (R = false) := hid (by rw [HB.out, decide_eq_false h15]; rfl)
      clear HB h15
      rcases hwords with hw1 | ⟨hw1, hw2⟩
      all_goals
        go_enter Tryz.func66, Tryz.ntmps66
        go_wp2_with (go_at_call 115; ((with_reducible refine (Hchan.out _).mono ?_)); rintro e w' ⟨rfl, hb⟩; obtain ⟨g1, rfl⟩ := bout hb; clear hb)
        go_ret
        exact ⟨by rw [HR.out]; rfl, by repeat (first | exact Below.refl _ _ | refine bG ?_ _ | refine bI ?_ _ _ | refine bA ?_ _ | refine bD ?_ | refine bN ?_ _)⟩
  · have hB : builtinP ns ns[n] = true := by unfold builtinP; rw [if_neg hrw]
    have hw1 : (ns[n].text.toList == [114, 101, 97, 100]) = false := by
      rw [ByteArray.toList_eq]
      cases e : (ns[n].text.data.toList == [114, 101, 97, 100]) with
      | false => rfl
      | true => exact absurd (by simp [rwW, eq_of_beq e]) hrw
    have hw2 : (ns[n].text.toList == [119, 114, 105, 116, 101]) = false := by
      rw [ByteArray.toList_eq]
      cases e : (ns[n].text.data.toList == [119, 114, 105, 116, 101]) with
      | false => rfl
      | true => exact absurd (by simp [rwW, eq_of_beq e]) hrw
    rw [hB]
    clear hB hrw ha hx hf hkid hpos hk hks
    generalize ns[n] = x at *
    generalize ns.length = L at *
    go_enter Tryz.func66, Tryz.ntmps66
    go_wp2
    go_ret
    exact ⟨rfl, by repeat (first | exact Below.refl _ _ | refine bG ?_ _ | refine bI ?_ _ _ | refine bA ?_ _ | refine bD ?_ | refine bN ?_ _)⟩
end Go.Proofs.YtjchnliaglecoaaGreatDoor

/- What else is asked of a shape and of a program, walked: the reference's. Conditions: the nodes ahead are as they should be. -/
namespace Go.Proofs.YtjchnliaglecoaaGreatDoor
open Go Go.RowKit Go.Nodes
set_option linter.unusedVariables false
set_option linter.unusedSimpArgs false
set_option maxRecDepth 10000 in
set_option maxHeartbeats 4000000 in
theorem extra_shape (w : World) (p : Option Addr) (c : Nat) (ns : List Nd) (hL : (ns.length : Int) ≤ 5000) (ha : NodesAt w p ns) (n : Nat) (hn : n < ns.length) (hk : ns[n].kind = 32) (hks : (ns[n].kids.length : Int) ≤ 20000) (hkid : ∀ k ∈ ns[n].kids, 0 ≤ k ∧ k < n) (hcap : (ns[n].kids.length : Int) ≤ (ns[n].kcap : Int)) :
    Calls Tryz.prog 66 #[.slice p ns.length c, .int .i64 (n : Int)] w fun e w' => e = .returned (.bool (decide ((ns[n].kids.map (textAt ns)).Nodup))) ∧ Below w.heap.size w w' := by
  obtain ⟨b, o, hp, hb, hx, hf, c0, c1, c2, c3⟩ := nd_at ha hn
  subst hp
  have n0 : (0 : Int) ≤ (n : Int) := by omega
  have n1 : (n : Int) < (ns.length : Int) := by omega
  have Hkid := hid hkid
  have Hf := hid hf
  have Ha := hid ha
  have hns : ns.length ≤ 5000 := by omega
  obtain ⟨L, hLL⟩ : ∃ L, L = ns.length := ⟨_, rfl⟩
  rw [← hLL] at hL n1 hns ⊢
  rw [hk] at c0
  have HL := hid hLL
  clear hx hf hkid ha hk hLL
  generalize ns[n] = x at *
  obtain ⟨q, hq⟩ : ∃ q, q = x.kids.length := ⟨_, rfl⟩
  rw [← hq] at c2 hks hcap
  have Hq := hid hq
  clear hq
  go_enter Tryz.func66, Tryz.ntmps66
  go_wp2
  go_loopw [102] (fun iv wr => ∃ (i : Nat) (g : Gro), iv = .int .i64 i ∧ i ≤ q ∧ wr = grow (w.alloc (.cells #[Value.int IntKind.i64 32, Value.string x.text, Value.slice x.kp q x.kcap, Value.int IntKind.i64 x.place] 56)) g ∧ Hid (((x.kids.take i).map (textAt ns)).Nodup)) (fun iv _ => q - (intOf iv).toNat)
  case atStart => exact ⟨0, _, rfl, by omega, (grow_refl _).symm, by simp [Hid]⟩
  case round =>
    obtain ⟨i, g, rfl, hi, rfl, hR⟩ := hrel
    by_cases hiq : i < q
    · have hil : i < x.kids.length := by have := Hq.out; omega
      obtain ⟨bk, ok, hkp, hbk, hck⟩ := kid_at Hf.out hil
      have hge : x.kids.getD i 0 = x.kids[i] := by simp [List.getD, List.getElem?_eq_getElem hil]
      have hkin := Hkid.out x.kids[i] (List.getElem_mem hil)
      rw [hge] at hck
      obtain ⟨z, hz⟩ : ∃ z : Nat, x.kids[i] = (z : Int) := ⟨(x.kids[i]).toNat, by omega⟩
      rw [hz] at hkin hck
      have hzl : z < ns.length := by omega
      obtain ⟨b2, o2, hp2, hb2, hx2, hf2, d0, d1, d2, d3⟩ := nd_at Ha.out hzl
      cases hp2
      have hti := textAt_of hx2
      have z0 : (0 : Int) ≤ (z : Int) := by omega
      have z1 : (z : Int) < (L : Int) := by have := HL.out; omega
      have i0 : (0 : Int) ≤ (i : Int) := by omega
      have i1 : (i : Int) < (q : Int) := by omega
      have i2 : (i : Int) ≤ (x.kcap : Int) := by omega
      have htake : x.kids.take (i + 1) = x.kids.take i ++ [(z : Int)] := by rw [List.take_add_one, List.getElem?_eq_getElem hil, hz]; rfl
      have Hti := hid hti
      have Htake := hid htake
      have Hkp := hid hkp
      have Hbk := hid hbk
      rw [hkp] at c2 ⊢
      clear hti htake hkp hge hx2 hf2 hz hil d0 d2 d3
      generalize ns[z].text = s1 at *
      go_wp2
      go_loopw [112] (fun jv wr => ∃ (j : Nat) (g2 : Gro), jv = .int .i64 j ∧ j ≤ i ∧ wr = grow (w.alloc (.cells #[Value.int IntKind.i64 32, Value.string x.text, Value.slice (some ⟨bk, ok, none⟩) q x.kcap, Value.int IntKind.i64 x.place] 56)) g2 ∧ Hid (∀ j' : Nat, j' < j → textAt ns (x.kids.getD j' 0) ≠ s1.data.toList)) (fun jv _ => i - (intOf jv).toNat)
      case atStart => exact ⟨0, g, rfl, by omega, rfl, fun j' h => by omega⟩
      case round =>
        obtain ⟨j, g2, rfl, hj, rfl, hJ⟩ := hrel
        by_cases hji : j < i
        · have hjl : j < x.kids.length := by have := Hq.out; omega
          obtain ⟨bk', ok', hkp', hbk', hcj⟩ := kid_at Hf.out hjl
          have hge : x.kids.getD j 0 = x.kids[j] := by simp [List.getD, List.getElem?_eq_getElem hjl]
          have hkin2 := Hkid.out x.kids[j] (List.getElem_mem hjl)
          rw [Hkp.out] at hkp'
          cases hkp'
          rw [hge] at hcj
          obtain ⟨y, hy⟩ : ∃ y : Nat, x.kids[j] = (y : Int) := ⟨(x.kids[j]).toNat, by omega⟩
          rw [hy] at hkin2 hcj
          have hyl : y < ns.length := by omega
          obtain ⟨b3, o3, hp3, hb3, hx3, hf3, f0, f1, f2, f3⟩ := nd_at Ha.out hyl
          cases hp3
          have htj := textAt_of hx3
          have y0 : (0 : Int) ≤ (y : Int) := by omega
          have y1 : (y : Int) < (L : Int) := by have := HL.out; omega
          have j0 : (0 : Int) ≤ (j : Int) := by omega
          have j1 : (j : Int) < (i : Int) := by omega
          have Htj := hid htj
          have Hgj := hid (hge.trans hy)
          clear htj hge hx3 hf3 hy f0 f2 f3 hbk'
          generalize ns[y].text = s2 at *
          cases he : (s1.toList == s2.toList) with
          | true =>
            have hno : ¬ ((x.kids.map (textAt ns)).Nodup) := fun h => by
              have h2 : (x.kids.map (textAt ns))[i]? = (x.kids.map (textAt ns))[j]? := by
                have e1 : x.kids[i]? = some (z : Int) := by
                  have := Htake.out
                  have h3 := congrArg (fun l => l[i]?) this
                  simp only [List.getElem?_take_of_lt (Nat.lt_succ_self i)] at h3
                  rw [h3, List.getElem?_append_right (by simp; omega)]
                  simp [show min i x.kids.length = i by have := Hq.out; omega]
                have e2 : x.kids[j]? = some (y : Int) := by
                  rw [List.getElem?_eq_getElem hjl, ← Hgj.out]
                  simp [List.getD, List.getElem?_eq_getElem hjl]
                rw [List.getElem?_map, List.getElem?_map, e1, e2]
                simp only [Option.map_some]
                rw [Hti.out, Htj.out]
                congr 1
                have := eq_of_beq he
                rwa [ByteArray.toList_eq, ByteArray.toList_eq] at this
              have h4 := (List.getElem?_inj (by simp; have := Hq.out; omega) h).1 h2
              omega
            have HD : Hid (decide ((x.kids.map (textAt ns)).Nodup) = false) := hid (decide_eq_false hno)
            clear hno
            go_wp2
            go_quiet (fail)
            go_wp2
            go_ret
            exact ⟨by rw [HD.out]; rfl, by repeat (first | exact Below.refl _ _ | refine bG ?_ _ | refine bI ?_ _ _ | refine bA ?_ _ | refine bD ?_ | refine bN ?_ _)⟩
          | false =>
            have Hne : Hid (∀ j' : Nat, j' < j + 1 → textAt ns (x.kids.getD j' 0) ≠ s1.data.toList) := hid fun j' h => by
              rcases Nat.lt_or_ge j' j with h2 | h2
              · exact hJ.out j' h2
              · obtain rfl : j' = j := by omega
                rw [Hgj.out, Htj.out]
                intro e
                rw [ByteArray.toList_eq, ByteArray.toList_eq, e] at he
                simp at he
            clear hJ
            go_wp2
            go_quiet (fail)
            go_wp2
            go_roundw
            case rel => exact ⟨j + 1, _, by go_num, by omega, drewN_grow _ _ _, Hne⟩
            case measure => simp [intOf]; omega
        · obtain rfl : j = i := by omega
          have HN : Hid (((x.kids.take (j + 1)).map (textAt ns)).Nodup) := hid (by
            rw [Htake.out, List.map_append, List.map_cons, List.map_nil, Hti.out, List.nodup_append]
            refine ⟨hR.out, by simp, fun a ha b' hb' e => ?_⟩
            simp at hb'
            subst hb'
            subst e
            obtain ⟨k, hk1, hk2⟩ := List.mem_map.1 ha
            obtain ⟨j', hj', hk3⟩ := List.mem_iff_getElem.1 hk1
            rw [List.length_take] at hj'
            rw [List.getElem_take] at hk3
            refine hJ.out j' (by omega) ?_
            rw [List.getD, List.getElem?_eq_getElem (by omega), hk3]
            exact hk2)
          have j1 : ¬ (j : Int) < (j : Int) := by omega
          clear hJ hR
          go_wp2
          go_roundw
          case rel => exact ⟨j + 1, _, by go_num, by omega, rfl, HN⟩
          case measure => simp [intOf]; omega
    · obtain rfl : i = q := by omega
      have hr := hR.out
      rw [List.take_of_length_le (by have := Hq.out; omega)] at hr
      have HD : Hid (decide ((x.kids.map (textAt ns)).Nodup) = true) := hid (decide_eq_true hr)
      have j1 : ¬ (i : Int) < (i : Int) := by omega
      clear hR hr
      go_wp2
      go_ret
      exact ⟨by rw [HD.out]; rfl, by repeat (first | exact Below.refl _ _ | refine bG ?_ _ | refine bI ?_ _ _ | refine bA ?_ _ | refine bD ?_ | refine bN ?_ _)⟩
end Go.Proofs.YtjchnliaglecoaaGreatDoor

/- What else is asked of a program, walked: the reference's. Conditions: the nodes ahead are as they should be. -/
namespace Go.Proofs.YtjchnliaglecoaaGreatDoor
open Go Go.RowKit Go.Nodes
set_option linter.unusedVariables false
set_option linter.unusedSimpArgs false
theorem first_eq {s t : ByteArray} (hs : 0 < s.size) (ht : 0 < t.size) : ((s[0].toNat : Int) == (t[0].toNat : Int)) = decide (s.data.toList.take 1 = t.data.toList.take 1) := by
  have e : ∀ (u : ByteArray) (h : 0 < u.size), u.data.toList.take 1 = [u[0]] := fun u h => by
    have hl : 0 < u.data.toList.length := by simpa using h
    rw [List.take_one, List.head?_eq_getElem?, List.getElem?_eq_getElem hl]
    simp [ByteArray.getElem_eq_getElem_data]
  rw [e s hs, e t ht]
  cases h : ((s[0].toNat : Int) == (t[0].toNat : Int)) with
  | true =>
    have := eq_of_beq h
    have h2 : s[0] = t[0] := UInt8.toNat_inj.1 (by omega)
    rw [h2, decide_eq_true rfl]
  | false =>
    rw [decide_eq_false]
    intro h2
    rw [List.cons.inj h2 |>.1] at h
    simp at h
set_option maxRecDepth 10000 in
set_option maxHeartbeats 4000000 in
theorem extra_program (w : World) (p : Option Addr) (c : Nat) (ns : List Nd) (hL : (ns.length : Int) ≤ 5000) (ha : NodesAt w p ns) (n : Nat) (hn : n < ns.length) (hk : ns[n].kind = 1) (hks : (ns[n].kids.length : Int) ≤ 20000) (hkid : ∀ k ∈ ns[n].kids, 0 ≤ k ∧ k < n) (hpos : 0 < ns[n].kids.length) (htx : ∀ k ∈ ns[n].kids.dropLast, 0 < (textAt ns k).length) (hcap : (ns[n].kids.length : Int) ≤ (ns[n].kcap : Int)) :
    Calls Tryz.prog 66 #[.slice p ns.length c, .int .i64 (n : Int)] w fun e w' => e = .returned (.bool (decide ((ns[n].kids.dropLast.map (fun k => (textAt ns k).take 1)).Nodup))) ∧ Below w.heap.size w w' := by
  obtain ⟨b, o, hp, hb, hx, hf, c0, c1, c2, c3⟩ := nd_at ha hn
  subst hp
  have n0 : (0 : Int) ≤ (n : Int) := by omega
  have n1 : (n : Int) < (ns.length : Int) := by omega
  have Hkid := hid hkid
  have Htx := hid htx
  have Hf := hid hf
  have Ha := hid ha
  have hns : ns.length ≤ 5000 := by omega
  obtain ⟨L, hLL⟩ : ∃ L, L = ns.length := ⟨_, rfl⟩
  rw [← hLL] at hL n1 hns ⊢
  rw [hk] at c0
  have HL := hid hLL
  clear hx hf hkid ha hk hLL htx
  generalize ns[n] = x at *
  obtain ⟨q, hq⟩ : ∃ q, q = x.kids.length := ⟨_, rfl⟩
  rw [← hq] at c2 hks hcap hpos
  obtain ⟨r, hr⟩ : ∃ r, q = r + 1 := ⟨q - 1, by omega⟩
  have hr1 : (q : Int) - 1 = (r : Int) := by omega
  have hr2 : (r : Int) ≤ (x.kcap : Int) := by omega
  have hr3 : (1 : Int) ≤ (q : Int) := by omega
  have Hr := hid hr
  clear hr
  have Hq := hid hq
  clear hq
  go_enter Tryz.func66, Tryz.ntmps66
  go_wp2
  go_loopw [139] (fun iv wr => ∃ (i : Nat) (g : Gro), iv = .int .i64 i ∧ i ≤ r ∧ wr = grow (w.alloc (.cells #[Value.int IntKind.i64 1, Value.string x.text, Value.slice x.kp q x.kcap, Value.int IntKind.i64 x.place] 56)) g ∧ Hid (((x.kids.take i).map (fun k => (textAt ns k).take 1)).Nodup)) (fun iv _ => r - (intOf iv).toNat)
  case atStart => exact ⟨0, _, rfl, by omega, (grow_refl _).symm, by simp [Hid]⟩
  case round =>
    obtain ⟨i, g, rfl, hi, rfl, hR⟩ := hrel
    by_cases hiq : i < r
    · have hil : i < x.kids.length := by have := Hq.out; have := Hr.out; omega
      obtain ⟨bk, ok, hkp, hbk, hck⟩ := kid_at Hf.out hil
      have hge : x.kids.getD i 0 = x.kids[i] := by simp [List.getD, List.getElem?_eq_getElem hil]
      have hkin := Hkid.out x.kids[i] (List.getElem_mem hil)
      rw [hge] at hck
      obtain ⟨z, hz⟩ : ∃ z : Nat, x.kids[i] = (z : Int) := ⟨(x.kids[i]).toNat, by omega⟩
      rw [hz] at hkin hck
      have hzl : z < ns.length := by omega
      obtain ⟨b2, o2, hp2, hb2, hx2, hf2, d0, d1, d2, d3⟩ := nd_at Ha.out hzl
      cases hp2
      have hti := textAt_of hx2
      have z0 : (0 : Int) ≤ (z : Int) := by omega
      have z1 : (z : Int) < (L : Int) := by have := HL.out; omega
      have i0 : (0 : Int) ≤ (i : Int) := by omega
      have i1 : (i : Int) < (r : Int) := by omega
      have i2 : (i : Int) ≤ (x.kcap : Int) := by omega
      have htake : x.kids.take (i + 1) = x.kids.take i ++ [(z : Int)] := by rw [List.take_add_one, List.getElem?_eq_getElem hil, hz]; rfl
      have hs1 : 0 < ns[z].text.size := by
        have h2 : (z : Int) ∈ x.kids.dropLast := by
          rw [← hz]
          have h3 : i < x.kids.dropLast.length := by simp; have := Hq.out; have := Hr.out; omega
          have h4 : x.kids.dropLast[i] = x.kids[i] := by simp
          rw [← h4]; exact List.getElem_mem h3
        have := Htx.out _ h2
        rw [hti] at this
        simpa using this
      have s1a : (0 : Int) < (ns[z].text.size : Int) := by omega
      have Hti := hid hti
      have Htake := hid htake
      have Hkp := hid hkp
      have Hbk := hid hbk
      rw [hkp] at c2 ⊢
      clear hti htake hkp hge hx2 hf2 hz hil d0 d2 d3
      generalize ns[z].text = s1 at *
      go_wp2
      go_loopw [149] (fun jv wr => ∃ (j : Nat) (g2 : Gro), jv = .int .i64 j ∧ j ≤ i ∧ wr = grow (w.alloc (.cells #[Value.int IntKind.i64 1, Value.string x.text, Value.slice (some ⟨bk, ok, none⟩) q x.kcap, Value.int IntKind.i64 x.place] 56)) g2 ∧ Hid (∀ j' : Nat, j' < j → (textAt ns (x.kids.getD j' 0)).take 1 ≠ s1.data.toList.take 1)) (fun jv _ => i - (intOf jv).toNat)
      case atStart => exact ⟨0, g, rfl, by omega, rfl, fun j' h => by omega⟩
      case round =>
        obtain ⟨j, g2, rfl, hj, rfl, hJ⟩ := hrel
        by_cases hji : j < i
        · have hjl : j < x.kids.length := by have := Hq.out; have := Hr.out; omega
          obtain ⟨bk', ok', hkp', hbk', hcj⟩ := kid_at Hf.out hjl
          have hge : x.kids.getD j 0 = x.kids[j] := by simp [List.getD, List.getElem?_eq_getElem hjl]
          have hkin2 := Hkid.out x.kids[j] (List.getElem_mem hjl)
          rw [Hkp.out] at hkp'
          cases hkp'
          rw [hge] at hcj
          obtain ⟨y, hy⟩ : ∃ y : Nat, x.kids[j] = (y : Int) := ⟨(x.kids[j]).toNat, by omega⟩
          rw [hy] at hkin2 hcj
          have hyl : y < ns.length := by omega
          obtain ⟨b3, o3, hp3, hb3, hx3, hf3, f0, f1, f2, f3⟩ := nd_at Ha.out hyl
          cases hp3
          have htj := textAt_of hx3
          have y0 : (0 : Int) ≤ (y : Int) := by omega
          have y1 : (y : Int) < (L : Int) := by have := HL.out; omega
          have j0 : (0 : Int) ≤ (j : Int) := by omega
          have j1 : (j : Int) < (i : Int) := by omega
          have hs2 : 0 < ns[y].text.size := by
            have h2 : (y : Int) ∈ x.kids.dropLast := by
              rw [← hy]
              have h3 : j < x.kids.dropLast.length := by simp; have := Hq.out; have := Hr.out; omega
              have h4 : x.kids.dropLast[j] = x.kids[j] := by simp
              rw [← h4]; exact List.getElem_mem h3
            have := Htx.out _ h2
            rw [htj] at this
            simpa using this
          have s2a : (0 : Int) < (ns[y].text.size : Int) := by omega
          have Htj := hid htj
          have Hgj := hid (hge.trans hy)
          clear htj hge hx3 hf3 hy f0 f2 f3 hbk'
          generalize ns[y].text = s2 at *
          have hfe := hid (first_eq hs1 hs2)
          obtain ⟨b1, hb1'⟩ : ∃ b1, (s1[0]'hs1).toNat = b1 := ⟨_, rfl⟩
          obtain ⟨b2', hb2'⟩ : ∃ b2, (s2[0]'hs2).toNat = b2 := ⟨_, rfl⟩
          have hfe2 := hfe.out
          rw [hb1', hb2'] at hfe2
          have Hfe := hid hfe2
          clear hfe hfe2
          cases he : ((b1 : Int) == (b2' : Int)) with
          | true =>
            have hno : ¬ ((x.kids.dropLast.map (fun k => (textAt ns k).take 1)).Nodup) := fun h => by
              have h2 : (x.kids.dropLast.map (fun k => (textAt ns k).take 1))[i]? = (x.kids.dropLast.map (fun k => (textAt ns k).take 1))[j]? := by
                have e1 : x.kids[i]? = some (z : Int) := by
                  have := Htake.out
                  have h3 := congrArg (fun l => l[i]?) this
                  simp only [List.getElem?_take_of_lt (Nat.lt_succ_self i)] at h3
                  rw [h3, List.getElem?_append_right (by simp; omega)]
                  simp [show min i x.kids.length = i by have := Hq.out; have := Hr.out; omega]
                have e2 : x.kids[j]? = some (y : Int) := by
                  rw [List.getElem?_eq_getElem hjl, ← Hgj.out]
                  simp [List.getD, List.getElem?_eq_getElem hjl]
                have d1 : x.kids.dropLast[i]? = x.kids[i]? := by rw [List.dropLast_eq_take, List.getElem?_take_of_lt (by have := Hq.out; have := Hr.out; omega)]
                have d2 : x.kids.dropLast[j]? = x.kids[j]? := by rw [List.dropLast_eq_take, List.getElem?_take_of_lt (by have := Hq.out; have := Hr.out; omega)]
                rw [List.getElem?_map, List.getElem?_map, d1, d2, e1, e2]
                simp only [Option.map_some]
                rw [Hti.out, Htj.out]
                congr 1
                have := Hfe.out
                rw [he] at this
                exact of_decide_eq_true this.symm
              have h4 := (List.getElem?_inj (by simp; have := Hq.out; have := Hr.out; omega) h).1 h2
              omega
            have HD : Hid (decide ((x.kids.dropLast.map (fun k => (textAt ns k).take 1)).Nodup) = false) := hid (decide_eq_false hno)
            clear hno
            go_wp2
            go_quiet (fail)
            go_wp2
            go_ret
            exact ⟨by first | (rw [HD.out]; rfl) | (rw [← List.map_dropLast, HD.out]; rfl), by repeat (first | exact Below.refl _ _ | refine bG ?_ _ | refine bI ?_ _ _ | refine bA ?_ _ | refine bD ?_ | refine bN ?_ _)⟩
          | false =>
            have Hne : Hid (∀ j' : Nat, j' < j + 1 → (textAt ns (x.kids.getD j' 0)).take 1 ≠ s1.data.toList.take 1) := hid fun j' h => by
              rcases Nat.lt_or_ge j' j with h2 | h2
              · exact hJ.out j' h2
              · obtain rfl : j' = j := by omega
                rw [Hgj.out, Htj.out]
                intro e
                have h5 := Hfe.out
                rw [he] at h5
                exact absurd (decide_eq_true e.symm) (by rw [← h5]; simp)
            clear hJ
            go_wp2
            go_quiet (fail)
            go_wp2
            go_roundw
            case rel => exact ⟨j + 1, _, by go_num, by omega, drewN_grow _ _ _, Hne⟩
            case measure => simp [intOf]; omega
        · obtain rfl : j = i := by omega
          have HN : Hid (((x.kids.take (j + 1)).map (fun k => (textAt ns k).take 1)).Nodup) := hid (by
            rw [Htake.out, List.map_append, List.map_cons, List.map_nil, Hti.out, List.nodup_append]
            refine ⟨hR.out, by simp, fun a ha b' hb' e => ?_⟩
            simp at hb'
            subst hb'
            subst e
            obtain ⟨k, hk1, hk2⟩ := List.mem_map.1 ha
            obtain ⟨j', hj', hk3⟩ := List.mem_iff_getElem.1 hk1
            rw [List.length_take] at hj'
            rw [List.getElem_take] at hk3
            refine hJ.out j' (by omega) ?_
            rw [List.getD, List.getElem?_eq_getElem (by omega), Option.getD_some, hk3]
            exact hk2)
          have j1 : ¬ (j : Int) < (j : Int) := by omega
          clear hJ hR
          go_wp2
          go_roundw
          case rel => exact ⟨j + 1, _, by go_num, by omega, rfl, HN⟩
          case measure => simp [intOf]; omega
    · obtain rfl : i = r := by omega
      have hr := hR.out
      rw [show x.kids.take i = x.kids.dropLast by rw [List.dropLast_eq_take]; congr 1; have := Hq.out; have := Hr.out; omega] at hr
      have HD : Hid (decide ((x.kids.dropLast.map (fun k => (textAt ns k).take 1)).Nodup) = true) := hid (decide_eq_true hr)
      have j1 : ¬ (i : Int) < (i : Int) := by omega
      clear hR hr
      go_wp2
      go_ret
      exact ⟨by first | (rw [HD.out]; rfl) | (rw [← List.map_dropLast, HD.out]; rfl), by repeat (first | exact Below.refl _ _ | refine bG ?_ _ | refine bI ?_ _ _ | refine bA ?_ _ | refine bD ?_ | refine bN ?_ _)⟩
end Go.Proofs.YtjchnliaglecoaaGreatDoor

/- What else is asked of a node: the reference's, of any kind. Conditions: the nodes ahead are as they should be. -/
namespace Go.Proofs.YtjchnliaglecoaaGreatDoor
open Go Go.RowKit Go.Nodes
set_option linter.unusedVariables false
set_option linter.unusedSimpArgs false
/-- A node as it should be, but for what else is asked. -/
structure VHalf (ns : List Nd) (i : Nat) (x : Nd) : Prop where
  k1 : 1 ≤ x.kind
  k36 : x.kind ≤ 36
  kids : ∀ k ∈ x.kids, 0 ≤ k ∧ k < i
  fits : fitsF (formOf x.kind.toNat) (kindsL ns x.kids) = true
  text : textS x.kind.toNat x.text.data.toList x.kids.length = true
theorem isS_channel {k : Nat} (h : isS k 104 = true) : k = 2 := Nat.eq_of_beq_eq_true h
theorem prog_kids {ks : List Nat} (h : fitsF [104, 42, 98] ks = true) : ∀ k ∈ ks.dropLast, k = 2 := by
  unfold fitsF at h
  rw [if_neg (by decide)] at h
  split at h
  · cases h
  · split at h
    · cases h
    · rw [show ([104, 42, 98] : List UInt8).length - 2 * ([104, 42, 98] : List UInt8).count 42 = 1 by decide] at h
      have h2 : ((ks.take (ks.length - 1)).all (fun k => isS k 104) && runF (ks.length - 1) [42, 98] (ks.drop (ks.length - 1))) = true := h
      rw [Bool.and_eq_true] at h2
      intro k hk
      rw [List.dropLast_eq_take] at hk
      exact isS_channel (List.all_eq_true.1 h2.1 k hk)
theorem chan_long {l : List UInt8} (h : chanS l = true) : 0 < l.length := by
  cases l with
  | nil => cases h
  | cons a l => simp
theorem bn_rw {l : List UInt8} (h : rwW.contains l = true) : 1 ≤ bn l := by
  simp only [rwW, List.contains_cons, List.contains_nil, Bool.or_false, Bool.or_eq_true] at h
  rcases h with h | h
  · rw [eq_of_beq h]; decide
  · rw [eq_of_beq h]; decide
def Capped (ns : List Nd) : Prop := ∀ x ∈ ns, x.kids.length ≤ x.kcap
theorem prog_text {ns : List Nd} {n : Nat} {x : Nd} (hx : VHalf ns n x) (hv : VPre ns n) (hn : n ≤ ns.length) (hk : x.kind = 1) : ∀ k ∈ x.kids.dropLast, 0 < (textAt ns k).length := by
  intro k hk2
  have hf := hx.fits
  rw [hk] at hf
  have h1 := prog_kids hf (kindAt ns k).toNat (by
    unfold kindsL
    rw [← List.map_dropLast]
    exact List.mem_map.2 ⟨k, hk2, rfl⟩)
  have hkin := hx.kids k (List.dropLast_subset _ hk2)
  obtain ⟨z, rfl⟩ : ∃ z : Nat, k = (z : Int) := ⟨k.toNat, by omega⟩
  have hzl : z < ns.length := by omega
  have hg : ns[z]? = some ns[z] := List.getElem?_eq_getElem hzl
  have hvz := hv z _ (by omega) hg
  rw [kindAt_of hg] at h1
  rw [textAt_of hg]
  have := hvz.text
  rw [h1] at this
  exact chan_long this
theorem extra_any (w : World) (p : Option Addr) (c : Nat) (ns : List Nd) (hs : Small ns) (hc : Capped ns) (ha : NodesAt w p ns) (n : Nat) (hn : n < ns.length) (hv : VPre ns n) (hx : VHalf ns n ns[n]) :
    Calls Tryz.prog 66 #[.slice p ns.length c, .int .i64 (n : Int)] w fun e w' => e = .returned (.bool (extraS ns ns[n])) ∧ Below w.heap.size w w' := by
  have hL : (ns.length : Int) ≤ 5000 := by have := hs.1; omega
  have hks := (hs.2 ns[n] (List.getElem_mem hn)).1
  have hcap := hc ns[n] (List.getElem_mem hn)
  unfold extraS
  by_cases h3 : ns[n].kind = 3
  · rw [if_pos h3]
    exact extra_block w p c ns hL ha n hn h3 (by omega) hx.kids
  rw [if_neg h3]
  by_cases h67 : ns[n].kind = 6 ∨ ns[n].kind = 7
  · rw [if_pos h67]
    exact extra_base w p c ns hL ha n hn hv h67 (has_kid hx.fits (by omega)) hx.kids
  rw [if_neg h67]
  by_cases h21 : ns[n].kind = 21
  · rw [if_pos h21]
    refine extra_builtin w p c ns hL ha n hn h21 hks hx.kids fun h => ?_
    have := hx.text
    rw [h21] at this
    have h2 : bn ns[n].text.data.toList = (ns[n].kids.length : Int) := of_decide_eq_true this
    have := bn_rw h
    omega
  rw [if_neg h21]
  by_cases h32 : ns[n].kind = 32
  · rw [if_pos h32]
    exact extra_shape w p c ns hL ha n hn h32 (by omega) hx.kids (by omega)
  rw [if_neg h32]
  by_cases h1 : ns[n].kind = 1
  · rw [if_pos h1]
    exact extra_program w p c ns hL ha n hn h1 (by omega) hx.kids (has_kid hx.fits (by omega)) (prog_text hx hv (by omega) h1) (by omega)
  rw [if_neg h1]
  exact extra_other w p c ns hL ha n hn ⟨h1, h3, by omega, by omega, h21, h32⟩
end Go.Proofs.YtjchnliaglecoaaGreatDoor

/- append onto a row of one's own ints. Conditions: none. -/
namespace Go.Proofs.YtjchnliaglecoaaGreatDoor
open Go Go.RowKit Go.Nodes
set_option linter.unusedVariables false
set_option linter.unusedSimpArgs false
theorem own_below {w w' : World} {B : Nat} {e : TypeId} {size : Nat} {v : Value} {n : Nat} {xs : List Value} (h : w.ownsRow B e size v n xs) (hb : Below w.heap.size w w') : w'.ownsRow B e size v n xs := by
  obtain ⟨h1, h2⟩ := h
  refine ⟨h1, ?_⟩
  rcases h2 with h2 | ⟨g, cap, cur, hv, hg, hh, hr⟩
  · exact Or.inl h2
  · exact Or.inr ⟨g, cap, cur, hv, hg, by rw [hb.block g (Array.getElem?_eq_some_iff.1 hh).1]; exact hh, hr⟩
/-- A row of ints of one's own. -/
def Ints (B : Nat) (w : World) (v : Value) (l : List Int) : Prop := w.ownsRow B 3 1 v l.length (l.map (Value.int .i64))
/-- The row lies where it lay, or in a new block. -/
theorem run_append_where {P : Program} (w : World) (base : Nat) (t ty e : TypeId) (i : TypeInfo) (z : Value) (size bytes : Nat) (ht : P.underlying t = some (.slice e)) (hi : P.info? e = some i) (hz : i.zero = some z)
    (hsize : i.size = size) (hby : i.bytes = bytes) (hzs : z.cells.size = size) (hsz : 0 < size) (v : Value) (n : Nat) (xs : List Value) (hown : w.ownsRow base e size v n xs)
    (a : Addr) (m c : Nat) (hm : 0 < m) (news : List Value) (hl : news.length = m * size) (hnews : ∀ j u, news[j]? = some u → w.cell? (a.add j) = some u) (h1 : ∀ u ∈ news, u.oneCell' = true)
    (h63 : n + m ≤ maxLen) (hbytes : (n + m) * bytes ≤ 140737488355328) (hbase : base ≤ w.heap.size) :
    ∃ v' w', (Builtin.append_ #[t, t] ty #[v, .slice (some a) m c]).run P w = .ok v' w' ∧ w'.ownsRow base e size v' (n + m) (xs ++ news) ∧ w.grownBy w' v.ownBlock ∧ (v'.ownBlock = v.ownBlock ∨ v'.ownBlock = some w.heap.size) := by
  obtain ⟨v', w', hr, h2, h3, h4⟩ := run_append_own (P := P) w base t ty e i z size bytes ht hi hz hsize hby hzs hsz v n xs hown a m c news hl hnews h1 h63 hbytes hbase
  refine ⟨v', w', hr, h2, h3, ?_⟩
  subst hsize
  subst hby
  rcases hown.2 with ⟨rfl, rfl⟩ | ⟨g, cap, cur, rfl, hbg, hg, hnc, hcm, hcs, htake⟩
  · have hr2 := run_append_nil (P := P) w t ty e i z ht hi hz a m c news hl hnews (by omega) (by unfold maxLen at h63; omega) (by have hb := hbytes; simp only [Nat.zero_add] at hb; omega)
    rw [hr] at hr2
    cases hr2
    exact .inr rfl
  · by_cases hroom : n + m ≤ cap
    · have hfit : n * i.size + news.length ≤ cur.size := by rw [hl, hcs, ← Nat.add_mul]; exact Nat.mul_le_mul_right _ hroom
      have hr2 := run_append_room (P := P) w t ty e i ht hi g n cap cur hg a m c news hl hnews h1 hroom hfit
      rw [hr] at hr2
      cases hr2
      exact .inl rfl
    · have holds : ∀ j u, xs[j]? = some u → w.cell? ((⟨g, 0, none⟩ : Addr).add j) = some u := hown.cells (g := g) rfl
      have hr2 := run_append_grow (P := P) w t ty e i z ht hi hz ⟨g, 0, none⟩ n cap xs hown.1 holds a m c news hl hnews (by omega) (by unfold maxLen at h63; omega) (growslice_fits (by omega) hbytes)
      rw [hr] at hr2
      cases hr2
      exact .inr rfl
theorem wpList_append_where {P : Program} (w : World) {ops : Array Oper} {rest : List Oper} {o : Oper} {a : Act} {Q : Exit → Act → World → Prop} (hgd : o.guard = none) (s x : Operand) (t : TypeId)
    (ho : o.op = .call { callee := .builtin .append, args := #[s, x], argTypes := #[t, t] })
    (base : Nat) (e : TypeId) (i : TypeInfo) (z : Value) (size bytes : Nat) (ht : P.underlying t = some (.slice e)) (hi : P.info? e = some i) (hz : i.zero = some z)
    (hsize : i.size = size) (hby : i.bytes = bytes) (hzs : z.cells.size = size) (hsz : 0 < size) (v : Value) (n : Nat) (xs : List Value) (hs : a.eval s = v) (hown : w.ownsRow base e size v n xs)
    (ad : Addr) (m c : Nat) (hm : 0 < m) (news : List Value) (hx : a.eval x = .slice (some ad) m c) (hl : news.length = m * size) (hnews : ∀ j u, news[j]? = some u → w.cell? (ad.add j) = some u) (h1 : ∀ u ∈ news, u.oneCell' = true)
    (h63 : n + m ≤ maxLen) (hbytes : (n + m) * bytes ≤ 140737488355328) (hbase : base ≤ w.heap.size)
    (h : ∀ v' w', w'.ownsRow base e size v' (n + m) (xs ++ news) → w.grownBy w' v.ownBlock → (v'.ownBlock = v.ownBlock ∨ v'.ownBlock = some w.heap.size) → wpList P ops Q rest (a.put o.dst v') w') : wpList P ops Q (o :: rest) a w :=
  wpList_plain hgd fun _ hK => by
    obtain ⟨v', w', hr, h2, h3, h4⟩ := run_append_where (P := P) w base t o.type e i z size bytes ht hi hz hsize hby hzs hsz v n xs hown ad m c hm news hl hnews h1 h63 hbytes hbase
    unfold Oper.wp execOp
    simp only [ho, resolve, invoke, builtin, Sem.run_bind, Sem.run_pure, Result.andThen_ok, List.map_toArray, List.map_cons, List.map_nil, hs, hx, hr]
    exact hK _ _ (h v' w' h2 h3 h4)
/-- One more behind a row of one's own; where the row lies then. -/
theorem wpList_append_int {w : World} {ops : Array Oper} {rest : List Oper} {o : Oper} {a : Act} {Q : Exit → Act → World → Prop} (hgd : o.guard = none) (s x : Operand)
    (ho : o.op = .call { callee := .builtin .append, args := #[s, x], argTypes := #[26, 26] }) (base : Nat) (v : Value) (xs : List Int) (y : Int) (g c : Nat) (hs : a.eval s = v) (hown : Ints base w v xs) (hx : a.eval x = .slice (some ⟨g, 0, none⟩) 1 c) (hc : w.cell? ⟨g, 0, none⟩ = some (.int .i64 y))
    (hl : xs.length ≤ 1000000) (hbase : base ≤ w.heap.size)
    (h : ∀ v' w', Ints base w' v' (xs ++ [y]) → w.grownBy w' v.ownBlock → (v'.ownBlock = v.ownBlock ∨ v'.ownBlock = some w.heap.size) → wpList Tryz.prog ops Q rest (a.put o.dst v') w') : wpList Tryz.prog ops Q (o :: rest) a w := by
  obtain ⟨iI, hiI, zI0, zI1, zI2⟩ := info_parts Tryz.infoI
  refine wpList_append_where w hgd s x 26 ho base 3 iI (.int .i64 0) 1 8 Tryz.underlying26 hiI zI0 zI1 zI2 rfl (by decide) v xs.length (xs.map (Value.int .i64)) hs hown ⟨g, 0, none⟩ 1 c (by decide) [.int .i64 y] hx (by simp) ?_ ?_ (by unfold maxLen; omega) (by omega) hbase fun v' w' h1 h2 h3 => h v' w' ?_ h2 h3
  · intro j q hj
    cases j with
    | zero => simp at hj; subst hj; exact hc
    | succ j => simp at hj
  · intro q hq; simp at hq; subst hq; rfl
  · unfold Ints; rw [List.length_append, List.map_append]; exact h1
/-- Such a row as an argument. -/
theorem Ints.out {B : Nat} {w : World} {v : Value} {l : List Int} (h : Ints B w v l) : ∃ p c, v = .slice p l.length c ∧ IntsAt w p l := by
  rcases h.2 with ⟨rfl, h0⟩ | ⟨g, cap, cur, rfl, _, hh, hn, hc, hs, ht⟩
  · have : l = [] := by simpa using h0
    subst this
    exact ⟨none, 0, rfl, .inl rfl⟩
  · refine ⟨_, _, rfl, .inr ⟨g, 0, rfl, (Array.getElem?_eq_some_iff.1 hh).1, fun i hi => ?_⟩⟩
    have h1 : (cur.toList.take (l.length * 1))[i]? = some (.int .i64 l[i]) := by rw [ht]; simp
    rw [List.getElem?_take_of_lt (by omega)] at h1
    simp only [World.cell?, hh, Nat.zero_add]
    simpa using h1
end Go.Proofs.YtjchnliaglecoaaGreatDoor
