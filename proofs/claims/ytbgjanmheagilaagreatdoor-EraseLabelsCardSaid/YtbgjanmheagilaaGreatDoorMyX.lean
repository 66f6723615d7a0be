/- What else is asked of a node: tree.more, walked, of the other kinds. Conditions: the nodes ahead are as they should be. -/
import Derived.Test.YtbgjanmheagilaaGreatDoorMoX
import Derived.Test.YtbgjanmheagilaaGreatDoorSv
set_option linter.unusedVariables false
set_option linter.unusedSimpArgs false
namespace Go.Proofs.YtbgjanmheagilaaGreatDoor
open Go Go.RowKit Go.Nodes
set_option linter.unusedVariables false
set_option linter.unusedSimpArgs false
set_option maxRecDepth 10000 in
set_option maxHeartbeats 4000000 in
theorem more_base6 (w : World) (p : Option Addr) (c : Nat) (ns : List Nd) (hL0 : (ns.length : Int) ≤ 5000) (ha : NodesAt w p ns) (N : Nat) (hN : N ≤ ns.length) (hv : VPre ns N) (text : ByteArray) (kp : Option Addr) (kcap : Nat) (kids : List Int) (place : Int) (hf : IntsAt w kp kids) (hpos : 0 < kids.length) (hkid : ∀ k ∈ kids, 0 ≤ k ∧ k < N) :
    Calls Tryz.prog 94 #[.slice p ns.length c, ndV ⟨6, text, kp, kcap, kids, place⟩] w fun e w' => e = must_end (decide (rootK ns (kids.getD 0 0) = 17 ∨ rootK ns (kids.getD 0 0) = 21)) ∧ Below w.heap.size w w' := by
  have Ha := hid ha
  have Hv := hid hv
  have hkin := hkid (kids.getD 0 0) (by rw [List.getD, List.getElem?_eq_getElem hpos]; exact List.getElem_mem hpos)
  obtain ⟨n0, hz⟩ : ∃ z : Nat, kids.getD 0 0 = (z : Int) := ⟨(kids.getD 0 0).toNat, by omega⟩
  rcases hf with ix | ⟨bk, ok, rfl, hbk, hck⟩
  · subst ix; simp at hpos
  replace hck := hck 0 hpos
  rw [show kids[0] = (n0 : Int) by rw [← hz, List.getD, List.getElem?_eq_getElem hpos]; rfl, Nat.add_zero] at hck
  rw [hz] at hkin ⊢
  have hN2 : (N : Int) ≤ (ns.length : Int) := by omega
  have hL : (ns.length : Int) ≤ 5000 := by omega
  obtain ⟨L, hLL⟩ : ∃ L, L = ns.length := ⟨_, rfl⟩
  unfold ndV
  simp only
  obtain ⟨q, hq⟩ : ∃ q, q = kids.length := ⟨_, rfl⟩
  rw [← hq] at hpos ⊢
  have q1 : (0 : Int) < (q : Int) := by omega
  rw [← hLL] at hN2 hL ⊢
  have HL := hid hLL
  have hn0 : n0 < N := by omega
  clear ha hv hLL hkid hq hz hL0 hpos hkin
  go_enter Tryz.func94, Tryz.ntmps94
  go_wp2
  go_loop [6] (fun nv => ∃ k : Nat, nv = .int .i64 k ∧ k < N ∧ Hid (∃ f, k < f ∧ rootF ns f k = rootK ns n0)) (fun nv => (intOf nv).toNat)
  case atStart => exact ⟨n0, rfl, hn0, n0 + 1, by omega, by unfold rootK; rw [Int.toNat_natCast]⟩
  case round =>
    obtain ⟨k, rfl, hk, hR⟩ := hrel
    have hkl : k < ns.length := by omega
    obtain ⟨b, o, rfl, hb, hx, hf, c0, c1, c2, c3⟩ := nd_at Ha.out hkl
    have hvn := Hv.out k _ hk hx
    generalize ns[k] = x at *
    obtain ⟨f, hkf, hr⟩ := hR.out
    obtain ⟨f, rfl⟩ : ∃ f', f = f' + 1 := ⟨f - 1, by omega⟩
    have hka := kindAt_of hx
    have hkd := kidAt_of hx
    have k0 : (0 : Int) ≤ (k : Int) := by omega
    have k1 : (k : Int) < (L : Int) := by omega
    by_cases hs : x.kind = 18 ∨ x.kind = 19 ∨ x.kind = 20
    · have hpos := has_kid hvn.fits (by omega)
      obtain ⟨bk, ok, hkp, hbk, hck⟩ := kid_at hf hpos
      have hkin := hvn.kids (x.kids.getD 0 0) (by rw [List.getD, List.getElem?_eq_getElem hpos]; exact List.getElem_mem hpos)
      unfold rootF at hr
      rw [hka, if_pos hs, hkd] at hr
      obtain ⟨z, hz⟩ : ∃ z : Nat, x.kids.getD 0 0 = (z : Int) := ⟨(x.kids.getD 0 0).toNat, by omega⟩
      rw [hz] at hr hkin hck
      rw [Nat.add_zero] at hck
      obtain ⟨q, hq⟩ : ∃ q, q = x.kids.length := ⟨_, rfl⟩
      rw [← hq] at c2 hpos
      rw [hkp] at c2
      have Hr := hid hr
      have q1 : (0 : Int) < (q : Int) := by omega
      clear hR hr hka hkd hvn hf hkp hz hq hx
      generalize x.kind = kx at *
      rcases hs with rfl | rfl | rfl
      all_goals
        go_wp2
        go_round
        case rel => exact ⟨z, rfl, by omega, f, by omega, Hr.out⟩
        case measure => simp [intOf]; omega
    · unfold rootF at hr
      rw [hka, if_neg hs] at hr
      have h18 : (x.kind == 18) = false := by cases e : (x.kind == 18) with
        | false => rfl
        | true => exact absurd (.inl (eq_of_beq e)) hs
      have h19 : (x.kind == 19) = false := by cases e : (x.kind == 19) with
        | false => rfl
        | true => exact absurd (.inr (.inl (eq_of_beq e))) hs
      have h20 : (x.kind == 20) = false := by cases e : (x.kind == 20) with
        | false => rfl
        | true => exact absurd (.inr (.inr (eq_of_beq e))) hs
      have Hr := hid hr
      clear hR hr hka hkd hvn hf hx hs
      generalize x.kind = kx at *
      by_cases r17 : kx = 17
      · subst r17
        go_wp2_with (go_at_call 91; ((with_reducible refine (must_yes _).mono ?_)); rintro e w' ⟨rfl, hw⟩; rw [hw]; clear hw w')
        go_end0
        exact ⟨by rw [← Hr.out]; rfl, by repeat (first | exact Below.refl _ _ | refine bG ?_ _ | refine bI ?_ _ _ | refine bA ?_ _ | refine bD ?_ | refine bN ?_ _)⟩
      · have r17' := ne_beq r17
        by_cases r21 : kx = 21
        · subst r21
          go_wp2_with (go_at_call 91; ((with_reducible refine (must_yes _).mono ?_)); rintro e w' ⟨rfl, hw⟩; rw [hw]; clear hw w')
          go_end0
          exact ⟨by rw [← Hr.out]; rfl, by repeat (first | exact Below.refl _ _ | refine bG ?_ _ | refine bI ?_ _ _ | refine bA ?_ _ | refine bD ?_ | refine bN ?_ _)⟩
        · have r21' := ne_beq r21
          have hd := hid (decide_eq_false (show ¬ (kx = 17 ∨ kx = 21) by omega))
          clear r17 r21
          go_wp2_with (go_at_call 91; ((with_reducible refine (must_no _).mono ?_)); rintro e w' ⟨rfl, hw⟩; rw [hw]; clear hw w')
          exact ⟨rfl, by rw [← Hr.out, hd.out]; rfl, by repeat (first | exact Below.refl _ _ | refine bG ?_ _ | refine bI ?_ _ _ | refine bA ?_ _ | refine bD ?_ | refine bN ?_ _)⟩
set_option maxRecDepth 10000 in
set_option maxHeartbeats 4000000 in
theorem more_base7 (w : World) (p : Option Addr) (c : Nat) (ns : List Nd) (hL0 : (ns.length : Int) ≤ 5000) (ha : NodesAt w p ns) (N : Nat) (hN : N ≤ ns.length) (hv : VPre ns N) (text : ByteArray) (kp : Option Addr) (kcap : Nat) (kids : List Int) (place : Int) (hf : IntsAt w kp kids) (hpos : 0 < kids.length) (hkid : ∀ k ∈ kids, 0 ≤ k ∧ k < N) :
    Calls Tryz.prog 94 #[.slice p ns.length c, ndV ⟨7, text, kp, kcap, kids, place⟩] w fun e w' => e = must_end (decide (rootK ns (kids.getD 0 0) = 17 ∨ rootK ns (kids.getD 0 0) = 21)) ∧ Below w.heap.size w w' := by
  have Ha := hid ha
  have Hv := hid hv
  have hkin := hkid (kids.getD 0 0) (by rw [List.getD, List.getElem?_eq_getElem hpos]; exact List.getElem_mem hpos)
  obtain ⟨n0, hz⟩ : ∃ z : Nat, kids.getD 0 0 = (z : Int) := ⟨(kids.getD 0 0).toNat, by omega⟩
  rcases hf with ix | ⟨bk, ok, rfl, hbk, hck⟩
  · subst ix; simp at hpos
  replace hck := hck 0 hpos
  rw [show kids[0] = (n0 : Int) by rw [← hz, List.getD, List.getElem?_eq_getElem hpos]; rfl, Nat.add_zero] at hck
  rw [hz] at hkin ⊢
  have hN2 : (N : Int) ≤ (ns.length : Int) := by omega
  have hL : (ns.length : Int) ≤ 5000 := by omega
  obtain ⟨L, hLL⟩ : ∃ L, L = ns.length := ⟨_, rfl⟩
  unfold ndV
  simp only
  obtain ⟨q, hq⟩ : ∃ q, q = kids.length := ⟨_, rfl⟩
  rw [← hq] at hpos ⊢
  have q1 : (0 : Int) < (q : Int) := by omega
  rw [← hLL] at hN2 hL ⊢
  have HL := hid hLL
  have hn0 : n0 < N := by omega
  clear ha hv hLL hkid hq hz hL0 hpos hkin
  go_enter Tryz.func94, Tryz.ntmps94
  go_wp2
  go_loop [6] (fun nv => ∃ k : Nat, nv = .int .i64 k ∧ k < N ∧ Hid (∃ f, k < f ∧ rootF ns f k = rootK ns n0)) (fun nv => (intOf nv).toNat)
  case atStart => exact ⟨n0, rfl, hn0, n0 + 1, by omega, by unfold rootK; rw [Int.toNat_natCast]⟩
  case round =>
    obtain ⟨k, rfl, hk, hR⟩ := hrel
    have hkl : k < ns.length := by omega
    obtain ⟨b, o, rfl, hb, hx, hf, c0, c1, c2, c3⟩ := nd_at Ha.out hkl
    have hvn := Hv.out k _ hk hx
    generalize ns[k] = x at *
    obtain ⟨f, hkf, hr⟩ := hR.out
    obtain ⟨f, rfl⟩ : ∃ f', f = f' + 1 := ⟨f - 1, by omega⟩
    have hka := kindAt_of hx
    have hkd := kidAt_of hx
    have k0 : (0 : Int) ≤ (k : Int) := by omega
    have k1 : (k : Int) < (L : Int) := by omega
    by_cases hs : x.kind = 18 ∨ x.kind = 19 ∨ x.kind = 20
    · have hpos := has_kid hvn.fits (by omega)
      obtain ⟨bk, ok, hkp, hbk, hck⟩ := kid_at hf hpos
      have hkin := hvn.kids (x.kids.getD 0 0) (by rw [List.getD, List.getElem?_eq_getElem hpos]; exact List.getElem_mem hpos)
      unfold rootF at hr
      rw [hka, if_pos hs, hkd] at hr
      obtain ⟨z, hz⟩ : ∃ z : Nat, x.kids.getD 0 0 = (z : Int) := ⟨(x.kids.getD 0 0).toNat, by omega⟩
      rw [hz] at hr hkin hck
      rw [Nat.add_zero] at hck
      obtain ⟨q, hq⟩ : ∃ q, q = x.kids.length := ⟨_, rfl⟩
      rw [← hq] at c2 hpos
      rw [hkp] at c2
      have Hr := hid hr
      have q1 : (0 : Int) < (q : Int) := by omega
      clear hR hr hka hkd hvn hf hkp hz hq hx
      generalize x.kind = kx at *
      rcases hs with rfl | rfl | rfl
      all_goals
        go_wp2
        go_round
        case rel => exact ⟨z, rfl, by omega, f, by omega, Hr.out⟩
        case measure => simp [intOf]; omega
    · unfold rootF at hr
      rw [hka, if_neg hs] at hr
      have h18 : (x.kind == 18) = false := by cases e : (x.kind == 18) with
        | false => rfl
        | true => exact absurd (.inl (eq_of_beq e)) hs
      have h19 : (x.kind == 19) = false := by cases e : (x.kind == 19) with
        | false => rfl
        | true => exact absurd (.inr (.inl (eq_of_beq e))) hs
      have h20 : (x.kind == 20) = false := by cases e : (x.kind == 20) with
        | false => rfl
        | true => exact absurd (.inr (.inr (eq_of_beq e))) hs
      have Hr := hid hr
      clear hR hr hka hkd hvn hf hx hs
      generalize x.kind = kx at *
      by_cases r17 : kx = 17
      · subst r17
        go_wp2_with (go_at_call 91; ((with_reducible refine (must_yes _).mono ?_)); rintro e w' ⟨rfl, hw⟩; rw [hw]; clear hw w')
        go_end0
        exact ⟨by rw [← Hr.out]; rfl, by repeat (first | exact Below.refl _ _ | refine bG ?_ _ | refine bI ?_ _ _ | refine bA ?_ _ | refine bD ?_ | refine bN ?_ _)⟩
      · have r17' := ne_beq r17
        by_cases r21 : kx = 21
        · subst r21
          go_wp2_with (go_at_call 91; ((with_reducible refine (must_yes _).mono ?_)); rintro e w' ⟨rfl, hw⟩; rw [hw]; clear hw w')
          go_end0
          exact ⟨by rw [← Hr.out]; rfl, by repeat (first | exact Below.refl _ _ | refine bG ?_ _ | refine bI ?_ _ _ | refine bA ?_ _ | refine bD ?_ | refine bN ?_ _)⟩
        · have r21' := ne_beq r21
          have hd := hid (decide_eq_false (show ¬ (kx = 17 ∨ kx = 21) by omega))
          clear r17 r21
          go_wp2_with (go_at_call 91; ((with_reducible refine (must_no _).mono ?_)); rintro e w' ⟨rfl, hw⟩; rw [hw]; clear hw w')
          exact ⟨rfl, by rw [← Hr.out, hd.out]; rfl, by repeat (first | exact Below.refl _ _ | refine bG ?_ _ | refine bI ?_ _ _ | refine bA ?_ _ | refine bD ?_ | refine bN ?_ _)⟩
def textB (ns : List Nd) (n : Int) : ByteArray := match ns[n.toNat]? with
  | some x => x.text
  | none => ByteArray.empty
theorem textB_data (ns : List Nd) (n : Int) : (textB ns n).data.toList = textAt ns n := by
  unfold textB textAt
  cases ns[n.toNat]? <;> rfl
def rwB : ByteArray := ⟨#[114, 101, 97, 100, 32, 119, 114, 105, 116, 101]⟩
def builtinM (ns : List Nd) (text : ByteArray) (kids : List Int) : Bool := if rwW.contains text.data.toList then decide (kindAt ns (kids.getD 0 0) = 15) && chan1 (textAt ns (kids.getD 0 0)) else true
set_option maxRecDepth 10000 in
set_option maxHeartbeats 4000000 in
theorem more_builtin (w : World) (p : Option Addr) (c : Nat) (ns : List Nd) (hL0 : (ns.length : Int) ≤ 5000) (hs : Small ns) (ha : NodesAt w p ns) (hl : Lib0 w) (N : Nat) (hN : N ≤ ns.length) (text : ByteArray) (hts : text.size ≤ 20000) (kp : Option Addr) (kcap : Nat) (kids : List Int) (place : Int) (hf : IntsAt w kp kids) (hkid : ∀ k ∈ kids, 0 ≤ k ∧ k < N)
    (hpos : rwW.contains text.data.toList = true → 0 < kids.length) :
    Calls Tryz.prog 94 #[.slice p ns.length c, ndV ⟨21, text, kp, kcap, kids, place⟩] w fun e w' => e = must_end (builtinM ns text kids) ∧ Below w.heap.size w w' := by
  have Hone : Hid (∀ W, Below w.heap.size w W → Calls Tryz.prog 125 #[.string text, .string ⟨#[114, 101, 97, 100, 32, 119, 114, 105, 116, 101]⟩] W fun e w' => e = .returned (.bool (rwW.contains text.data.toList)) ∧ Below W.heap.size W w') := hid fun W hW => one_rw text (by omega) W (hl.later hW)
  unfold builtinM ndV
  simp only
  by_cases hrw : rwW.contains text.data.toList = true
  · have hfit := hpos hrw
    rcases hf with ix | ⟨bk, ok, rfl, hbk, hck⟩
    · subst ix; simp at hfit
    replace hck := hck 0 hfit
    have hkin := hkid (kids.getD 0 0) (by rw [List.getD, List.getElem?_eq_getElem hfit]; exact List.getElem_mem hfit)
    obtain ⟨z, hz⟩ : ∃ z : Nat, kids.getD 0 0 = (z : Int) := ⟨(kids.getD 0 0).toNat, by omega⟩
    rw [show kids[0] = (z : Int) by rw [← hz, List.getD, List.getElem?_eq_getElem hfit]; rfl, Nat.add_zero] at hck
    rw [hz] at hkin ⊢
    rw [if_pos hrw]
    rw [hrw] at Hone
    have hzl : z < ns.length := by omega
    obtain ⟨b2, o2, rfl, hb2, hx2, hf2, d0, d1, d2, d3⟩ := nd_at ha hzl
    have hsz := (hs.2 ns[z] (List.getElem_mem hzl)).2
    rw [kindAt_of hx2, textAt_of hx2]
    have Hchan : Hid (∀ W, Below w.heap.size w W → Calls Tryz.prog 130 #[.string ns[z].text] W fun e w2 => e = .returned (.bool (chan1 ns[z].text.data.toList)) ∧ Below W.heap.size W w2) := hid fun W hW => by
      have h := channel_any ns[z].text (by omega) W (hl.later hW)
      rw [chan1_eq] at h
      exact h
    have z0 : (0 : Int) ≤ (z : Int) := by omega
    have z1 : (z : Int) < (ns.length : Int) := by omega
    obtain ⟨q, hq⟩ : ∃ q, q = kids.length := ⟨_, rfl⟩
    rw [← hq] at hfit ⊢
    have q1 : (0 : Int) < (q : Int) := by omega
    clear ha hkid hz hq hpos hx2 hf2 hrw hl hs hsz d2 d3
    generalize ns[z] = y at *
    generalize ns.length = L at *
    generalize y.kind = ky at *
    generalize chan1 y.text.data.toList = ch at *
    by_cases h15 : ky = 15
    · subst h15
      simp only [decide_true, Bool.true_and]
      cases ch with
      | true =>
        go_enter Tryz.func94, Tryz.ntmps94
        go_wp2_with (first
          | (go_at_call 125; ((with_reducible refine (Hone.out _ (by repeat (first | exact Below.refl _ _ | refine bG ?_ _ | refine bI ?_ _ _ | refine bA ?_ _ | refine bD ?_ | refine bN ?_ _))).mono ?_)); rintro e w' ⟨rfl, hb⟩; obtain ⟨g1, rfl⟩ := bout hb; clear hb)
          | (go_at_call 130; ((with_reducible refine (Hchan.out _ (by repeat (first | exact Below.refl _ _ | refine bG ?_ _ | refine bI ?_ _ _ | refine bA ?_ _ | refine bD ?_ | refine bN ?_ _))).mono ?_)); rintro e w' ⟨rfl, hb⟩; obtain ⟨g2, rfl⟩ := bout hb; clear hb)
          | (go_at_call 91; ((with_reducible refine (must_yes _).mono ?_)); rintro e w' ⟨rfl, hw⟩; rw [hw]; clear hw w'))
        go_end0
        exact ⟨rfl, by repeat (first | exact Below.refl _ _ | refine bG ?_ _ | refine bI ?_ _ _ | refine bA ?_ _ | refine bD ?_ | refine bN ?_ _)⟩
      | false =>
        go_enter Tryz.func94, Tryz.ntmps94
        go_wp2_with (first
          | (go_at_call 125; ((with_reducible refine (Hone.out _ (by repeat (first | exact Below.refl _ _ | refine bG ?_ _ | refine bI ?_ _ _ | refine bA ?_ _ | refine bD ?_ | refine bN ?_ _))).mono ?_)); rintro e w' ⟨rfl, hb⟩; obtain ⟨g1, rfl⟩ := bout hb; clear hb)
          | (go_at_call 130; ((with_reducible refine (Hchan.out _ (by repeat (first | exact Below.refl _ _ | refine bG ?_ _ | refine bI ?_ _ _ | refine bA ?_ _ | refine bD ?_ | refine bN ?_ _))).mono ?_)); rintro e w' ⟨rfl, hb⟩; obtain ⟨g2, rfl⟩ := bout hb; clear hb)
          | (go_at_call 91; ((with_reducible refine (must_no _).mono ?_)); rintro e w' ⟨rfl, hw⟩; rw [hw]; clear hw w'))
        exact ⟨rfl, rfl, by repeat (first | exact Below.refl _ _ | refine bG ?_ _ | refine bI ?_ _ _ | refine bA ?_ _ | refine bD ?_ | refine bN ?_ _)⟩
    · have h15' := ne_beq h15
      rw [decide_eq_false h15, Bool.false_and]
      clear h15
      go_enter Tryz.func94, Tryz.ntmps94
      go_wp2_with (first
        | (go_at_call 125; ((with_reducible refine (Hone.out _ (by repeat (first | exact Below.refl _ _ | refine bG ?_ _ | refine bI ?_ _ _ | refine bA ?_ _ | refine bD ?_ | refine bN ?_ _))).mono ?_)); rintro e w' ⟨rfl, hb⟩; obtain ⟨g1, rfl⟩ := bout hb; clear hb)
        | (go_at_call 91; ((with_reducible refine (must_no _).mono ?_)); rintro e w' ⟨rfl, hw⟩; rw [hw]; clear hw w'))
      exact ⟨rfl, rfl, by repeat (first | exact Below.refl _ _ | refine bG ?_ _ | refine bI ?_ _ _ | refine bA ?_ _ | refine bD ?_ | refine bN ?_ _)⟩
  · rw [if_neg hrw]
    rw [show rwW.contains text.data.toList = false by simpa using hrw] at Hone
    clear hrw ha hkid hpos hf hl
    generalize ns.length = L at *
    generalize kids.length = q at *
    go_enter Tryz.func94, Tryz.ntmps94
    go_wp2_with (go_at_call 125; ((with_reducible refine (Hone.out _ (by repeat (first | exact Below.refl _ _ | refine bG ?_ _ | refine bI ?_ _ _ | refine bA ?_ _ | refine bD ?_ | refine bN ?_ _))).mono ?_)); rintro e w' ⟨rfl, hb⟩; obtain ⟨g1, rfl⟩ := bout hb; clear hb)
    go_end0
    exact ⟨rfl, by repeat (first | exact Below.refl _ _ | refine bG ?_ _ | refine bI ?_ _ _ | refine bA ?_ _ | refine bD ?_ | refine bN ?_ _)⟩
/-- The kids' texts, as unlike wants them. -/
theorem texts_at {w W : World} {p kp : Option Addr} {ns : List Nd} {kids : List Int} (ha : NodesAt w p ns) (hf : IntsAt w kp kids) (hW : Below w.heap.size w W) (N : Nat) (hN : N ≤ ns.length) (l : List Int) (hp : l <+: kids) (hkid : ∀ k ∈ l, 0 ≤ k ∧ k < N) : TextsAt W p kp ns.length (l.map (textB ns)) := by
  intro i t hi
  rw [List.getElem?_map] at hi
  cases hg : l[i]? with
  | none => rw [hg] at hi; cases hi
  | some k =>
    rw [hg] at hi
    simp only [Option.map_some, Option.some.injEq] at hi
    obtain ⟨hil, hgk⟩ := List.getElem?_eq_some_iff.1 hg
    have hin := hkid k (List.mem_of_getElem? hg)
    obtain ⟨z, rfl⟩ : ∃ z : Nat, k = (z : Int) := ⟨k.toNat, by omega⟩
    have hzl : z < ns.length := by omega
    obtain ⟨b2, o2, rfl, hb2, hx2, hf2, d0, d1, d2, d3⟩ := nd_at ha hzl
    have hlk := hp.length_le
    rcases hf with ix | ⟨bk, ok, rfl, hbk, hck⟩
    · subst ix; simp at hlk; subst hlk; simp at hil
    have hck2 := hck i (by omega)
    rw [show kids[i]'(by omega) = (z : Int) by rw [← hgk]; obtain ⟨r, hr⟩ := hp; subst hr; simp [List.getElem_append, hil]] at hck2
    refine ⟨b2, o2, bk, ok, z, rfl, rfl, by have := hW.size; omega, by have := hW.size; omega, hzl, (hW.cell (p := ⟨bk, ok + i, none⟩) hbk).trans hck2, ?_⟩
    rw [← hi]
    unfold textB
    rw [Int.toNat_natCast, hx2]
    exact (hW.cell (p := ⟨b2, o2 + z * 4 + 1, none⟩) hb2).trans d1
theorem textB_size {ns : List Nd} (hs : Small ns) (k : Int) : (textB ns k).size ≤ 20000 := by
  unfold textB
  cases h : ns[k.toNat]? with
  | none => simp
  | some x => exact (hs.2 x (List.mem_of_getElem? h)).2
set_option maxRecDepth 10000 in
set_option maxHeartbeats 4000000 in
theorem more_shape (w : World) (p : Option Addr) (c : Nat) (ns : List Nd) (hL0 : (ns.length : Int) ≤ 5000) (hs : Small ns) (ha : NodesAt w p ns) (N : Nat) (hN : N ≤ ns.length) (text : ByteArray) (kp : Option Addr) (kcap : Nat) (kids : List Int) (place : Int) (hf : IntsAt w kp kids) (hks : (kids.length : Int) ≤ 20000) (hkid : ∀ k ∈ kids, 0 ≤ k ∧ k < N) :
    Calls Tryz.prog 94 #[.slice p ns.length c, ndV ⟨32, text, kp, kcap, kids, place⟩] w fun e w' => e = must_end (decide ((kids.map (textAt ns)).Nodup)) ∧ Below w.heap.size w w' := by
  unfold ndV
  simp only
  have Hun : Hid (∀ W, Below w.heap.size w W → Calls Tryz.prog 131 #[.slice p ns.length c, .slice kp kids.length kcap, .func (.func 132) #[] #[]] W fun e w' => e = .returned (.bool (decide ((kids.map (textAt ns)).Nodup))) ∧ Below W.heap.size W w') := hid fun W hW => by
    have h := unlike_all W p kp ns.length c kids.length kcap hL0 hks (kids.map (textB ns)) (by simp) (texts_at ha hf hW N hN kids (List.prefix_refl _) hkid) (fun s h => by obtain ⟨k, _, rfl⟩ := List.mem_map.1 h; exact textB_size hs k)
    rw [List.map_map] at h
    rw [show ((fun s : ByteArray => s.data.toList) ∘ textB ns) = textAt ns from funext fun k => textB_data ns k] at h
    exact h
  clear ha hf hkid hs
  generalize decide ((kids.map (textAt ns)).Nodup) = R at *
  generalize ns.length = L at *
  generalize kids.length = q at *
  cases R with
  | true =>
    go_enter Tryz.func94, Tryz.ntmps94
    go_wp2_with (first
      | (go_at_call 131; ((with_reducible refine (Hun.out _ (by repeat (first | exact Below.refl _ _ | refine bG ?_ _ | refine bI ?_ _ _ | refine bA ?_ _ | refine bD ?_ | refine bN ?_ _))).mono ?_)); rintro e w' ⟨rfl, hb⟩; obtain ⟨g1, rfl⟩ := bout hb; clear hb)
      | (go_at_call 91; ((with_reducible refine (must_yes _).mono ?_)); rintro e w' ⟨rfl, hw⟩; rw [hw]; clear hw w'))
    go_end0
    exact ⟨rfl, by repeat (first | exact Below.refl _ _ | refine bG ?_ _ | refine bI ?_ _ _ | refine bA ?_ _ | refine bD ?_ | refine bN ?_ _)⟩
  | false =>
    go_enter Tryz.func94, Tryz.ntmps94
    go_wp2_with (first
      | (go_at_call 131; ((with_reducible refine (Hun.out _ (by repeat (first | exact Below.refl _ _ | refine bG ?_ _ | refine bI ?_ _ _ | refine bA ?_ _ | refine bD ?_ | refine bN ?_ _))).mono ?_)); rintro e w' ⟨rfl, hb⟩; obtain ⟨g1, rfl⟩ := bout hb; clear hb)
      | (go_at_call 91; ((with_reducible refine (must_no _).mono ?_)); rintro e w' ⟨rfl, hw⟩; rw [hw]; clear hw w'))
    exact ⟨rfl, rfl, by repeat (first | exact Below.refl _ _ | refine bG ?_ _ | refine bI ?_ _ _ | refine bA ?_ _ | refine bD ?_ | refine bN ?_ _)⟩
set_option maxRecDepth 10000 in
set_option maxHeartbeats 4000000 in
theorem more_program (w : World) (p : Option Addr) (c : Nat) (ns : List Nd) (hL0 : (ns.length : Int) ≤ 5000) (hs : Small ns) (ha : NodesAt w p ns) (N : Nat) (hN : N ≤ ns.length) (text : ByteArray) (kp : Option Addr) (kcap : Nat) (kids : List Int) (place : Int) (hf : IntsAt w kp kids) (hks : (kids.length : Int) ≤ 20000) (hkid : ∀ k ∈ kids, 0 ≤ k ∧ k < N)
    (hpos : 0 < kids.length) (hcap : kids.length ≤ kcap) (htx : ∀ k ∈ kids.dropLast, 0 < (textAt ns k).length) :
    Calls Tryz.prog 94 #[.slice p ns.length c, ndV ⟨1, text, kp, kcap, kids, place⟩] w fun e w' => e = must_end (decide ((kids.dropLast.map (fun k => (textAt ns k).take 1)).Nodup)) ∧ Below w.heap.size w w' := by
  unfold ndV
  simp only
  obtain ⟨q, hq⟩ : ∃ q, q + 1 = kids.length := ⟨kids.length - 1, by omega⟩
  have Hun : Hid (∀ W, Below w.heap.size w W → Calls Tryz.prog 131 #[.slice p ns.length c, .slice kp q kcap, .func (.func 133) #[] #[]] W fun e w' => e = .returned (.bool (decide ((kids.dropLast.map (fun k => (textAt ns k).take 1)).Nodup))) ∧ Below W.heap.size W w') := hid fun W hW => by
    have h := unlike_one W p kp ns.length c q kcap hL0 (by omega) (kids.dropLast.map (textB ns)) (by simp; omega) (texts_at ha hf hW N hN kids.dropLast (List.dropLast_prefix _) (fun k hk => hkid k (List.dropLast_subset _ hk))) (fun s h => by
      obtain ⟨k, hk, rfl⟩ := List.mem_map.1 h
      have h2 := htx k hk
      rw [← textB_data] at h2
      exact ⟨by simpa using h2, textB_size hs k⟩)
    rw [List.map_map] at h
    rw [show ((fun s : ByteArray => s.data.toList.take 1) ∘ textB ns) = (fun k => (textAt ns k).take 1) from funext fun k => by simp only [Function.comp, textB_data]] at h
    exact h
  clear ha hf hkid hs htx hpos
  generalize decide ((kids.dropLast.map (fun k => (textAt ns k).take 1)).Nodup) = R at *
  generalize ns.length = L at *
  rw [← hq] at hcap hks ⊢
  clear hq
  have q0 : (0 : Int) ≤ (q : Int) := by omega
  have q1 : (q : Int) ≤ (kcap : Int) := by omega
  cases R with
  | true =>
    go_enter Tryz.func94, Tryz.ntmps94
    go_wp2_with (first
      | (go_at_call 131; ((with_reducible refine (Hun.out _ (by repeat (first | exact Below.refl _ _ | refine bG ?_ _ | refine bI ?_ _ _ | refine bA ?_ _ | refine bD ?_ | refine bN ?_ _))).mono ?_)); rintro e w' ⟨rfl, hb⟩; obtain ⟨g1, rfl⟩ := bout hb; clear hb)
      | (go_at_call 91; ((with_reducible refine (must_yes _).mono ?_)); rintro e w' ⟨rfl, hw⟩; rw [hw]; clear hw w'))
    go_end0
    exact ⟨rfl, by repeat (first | exact Below.refl _ _ | refine bG ?_ _ | refine bI ?_ _ _ | refine bA ?_ _ | refine bD ?_ | refine bN ?_ _)⟩
  | false =>
    go_enter Tryz.func94, Tryz.ntmps94
    go_wp2_with (first
      | (go_at_call 131; ((with_reducible refine (Hun.out _ (by repeat (first | exact Below.refl _ _ | refine bG ?_ _ | refine bI ?_ _ _ | refine bA ?_ _ | refine bD ?_ | refine bN ?_ _))).mono ?_)); rintro e w' ⟨rfl, hb⟩; obtain ⟨g1, rfl⟩ := bout hb; clear hb)
      | (go_at_call 91; ((with_reducible refine (must_no _).mono ?_)); rintro e w' ⟨rfl, hw⟩; rw [hw]; clear hw w'))
    exact ⟨rfl, rfl, by repeat (first | exact Below.refl _ _ | refine bG ?_ _ | refine bI ?_ _ _ | refine bA ?_ _ | refine bD ?_ | refine bN ?_ _)⟩
end Go.Proofs.YtbgjanmheagilaaGreatDoor

/- tree.more, of any kind. Conditions: the nodes ahead are as they should be, and so is the node, but for what else is asked. -/
namespace Go.Proofs.YtbgjanmheagilaaGreatDoor
open Go Go.RowKit Go.Nodes
set_option linter.unusedVariables false
set_option linter.unusedSimpArgs false
theorem more_any (w : World) (p : Option Addr) (c : Nat) (ns : List Nd) (hs : Small ns) (ha : NodesAt w p ns) (hl : Lib0 w) (n : Nat) (hn : n < ns.length) (hv : VPre ns n) (x : Nd) (hf : IntsAt w x.kp x.kids) (hsz : x.kids.length ≤ 20000) (hts : x.text.size ≤ 20000) (hcap : x.kids.length ≤ x.kcap) (hx : VHalf ns n x) :
    Calls Tryz.prog 94 #[.slice p ns.length c, ndV x] w fun e w' => e = must_end (extraS ns x) ∧ Below w.heap.size w w' := by
  have hL : (ns.length : Int) ≤ 5000 := by have := hs.1; omega
  have hks : (x.kids.length : Int) ≤ 20000 := by omega
  unfold extraS
  obtain ⟨kind, text, kp, kcap, kids, place⟩ := x
  have hkd := hx.kids
  simp only at hf hsz hts hcap hks hkd ⊢
  by_cases h3 : kind = 3
  · rw [if_pos h3]
    subst h3
    exact more_block w p c ns hL ha n hn text kp kcap kids place hf hks hkd
  rw [if_neg h3]
  by_cases h67 : kind = 6 ∨ kind = 7
  · rw [if_pos h67]
    have hpos : 0 < kids.length := has_kid hx.fits (by simp only; omega)
    rcases h67 with rfl | rfl
    · exact more_base6 w p c ns hL ha n (by omega) hv text kp kcap kids place hf hpos hkd
    · exact more_base7 w p c ns hL ha n (by omega) hv text kp kcap kids place hf hpos hkd
  rw [if_neg h67]
  by_cases h21 : kind = 21
  · rw [if_pos h21]
    subst h21
    refine more_builtin w p c ns hL hs ha hl n (by omega) text hts kp kcap kids place hf hkd fun h => ?_
    have h2 : bn text.data.toList = (kids.length : Int) := of_decide_eq_true hx.text
    have := bn_rw h
    omega
  rw [if_neg h21]
  by_cases h32 : kind = 32
  · rw [if_pos h32]
    subst h32
    exact more_shape w p c ns hL hs ha n (by omega) text kp kcap kids place hf hks hkd
  rw [if_neg h32]
  by_cases h1 : kind = 1
  · rw [if_pos h1]
    subst h1
    exact more_program w p c ns hL hs ha n (by omega) text kp kcap kids place hf hks hkd (has_kid hx.fits (by simp)) hcap (prog_text hx hv (by omega) rfl)
  rw [if_neg h1]
  exact more_other w p ns.length c ⟨kind, text, kp, kcap, kids, place⟩ ⟨h1, h3, by simp only; omega, by simp only; omega, h21, h32⟩
end Go.Proofs.YtbgjanmheagilaaGreatDoor
