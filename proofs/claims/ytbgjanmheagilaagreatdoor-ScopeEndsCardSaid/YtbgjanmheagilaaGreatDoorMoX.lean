/- What else is asked of a node, walked: the reference's, of most kinds. Conditions: the nodes ahead are as they should be. -/
import Derived.Deep.RegionHeld3
import Derived.Test.YtbgjanmheagilaaGreatDoorRtX
import Derived.Test.YtbgjanmheagilaaGreatDoorCh
import Derived.Maps.OwnSet
import Derived.Test.YtbgjanmheagilaaGreatDoorNrX
set_option linter.unusedVariables false
set_option linter.unusedSimpArgs false
namespace Go.Proofs.YtbgjanmheagilaaGreatDoor
open Go Go.RowKit Go.Nodes
set_option linter.unusedVariables false
set_option linter.unusedSimpArgs false
theorem ne_beq {a b : Int} (h : a ≠ b) : (a == b) = false := by
  cases e : (a == b) with
  | false => rfl
  | true => exact absurd (eq_of_beq e) h
set_option maxRecDepth 10000 in
set_option maxHeartbeats 4000000 in
theorem extra_other (w : World) (p : Option Addr) (c : Nat) (ns : List Nd) (hL : (ns.length : Int) ≤ 5000) (ha : NodesAt w p ns) (n : Nat) (hn : n < ns.length) (hk : ns[n].kind ≠ 1 ∧ ns[n].kind ≠ 3 ∧ ns[n].kind ≠ 6 ∧ ns[n].kind ≠ 7 ∧ ns[n].kind ≠ 21 ∧ ns[n].kind ≠ 32) :
    Calls Tryz.prog 44 #[.slice p ns.length c, .int .i64 (n : Int)] w fun e w' => e = .returned (.bool true) ∧ Below w.heap.size w w' := by
  obtain ⟨b, o, rfl, hb, hx, hf, c0, c1, c2, c3⟩ := nd_at ha hn
  have n0 : (0 : Int) ≤ (n : Int) := by omega
  have n1 : (n : Int) < (ns.length : Int) := by omega
  have e1 := ne_beq hk.1
  have e2 := ne_beq hk.2.1
  have e3 := ne_beq hk.2.2.1
  have e4 := ne_beq hk.2.2.2.1
  have e5 := ne_beq hk.2.2.2.2.1
  have e6 := ne_beq hk.2.2.2.2.2
  clear hk ha hx hf
  generalize ns[n] = x at *
  generalize ns.length = L at *
  generalize x.kind = kx at *
  go_enter Tryz.func44, Tryz.ntmps44
  go_wp2
  go_ret
  exact ⟨rfl, by repeat (first | exact Below.refl _ _ | refine bG ?_ _ | refine bI ?_ _ _ | refine bA ?_ _)⟩
set_option maxRecDepth 10000 in
set_option maxHeartbeats 4000000 in
theorem extra_base (w : World) (p : Option Addr) (c : Nat) (ns : List Nd) (hL : (ns.length : Int) ≤ 5000) (ha : NodesAt w p ns) (n : Nat) (hn : n < ns.length) (hv : VPre ns n) (hk : ns[n].kind = 6 ∨ ns[n].kind = 7) (hfit : 0 < ns[n].kids.length) (hkid : ∀ k ∈ ns[n].kids, 0 ≤ k ∧ k < n) :
    Calls Tryz.prog 44 #[.slice p ns.length c, .int .i64 (n : Int)] w fun e w' => e = .returned (.bool (decide (rootK ns (ns[n].kids.getD 0 0) = 17 ∨ rootK ns (ns[n].kids.getD 0 0) = 21))) ∧ Below w.heap.size w w' := by
  obtain ⟨b, o, hp, hb, hx, hf, c0, c1, c2, c3⟩ := nd_at ha hn
  have n0 : (0 : Int) ≤ (n : Int) := by omega
  have n1 : (n : Int) < (ns.length : Int) := by omega
  obtain ⟨bk, ok, hkp, hbk, hck⟩ := kid_at hf hfit
  have hkin := hkid (ns[n].kids.getD 0 0) (by rw [List.getD, List.getElem?_eq_getElem hfit]; exact List.getElem_mem hfit)
  obtain ⟨z, hz⟩ : ∃ z : Nat, ns[n].kids.getD 0 0 = (z : Int) := ⟨(ns[n].kids.getD 0 0).toNat, by omega⟩
  rw [hz] at hck hkin ⊢
  rw [Nat.add_zero] at hck
  have Hroot : Hid (∀ w', Below w.heap.size w w' → Calls Tryz.prog 77 #[.slice p ns.length c, .int .i64 (z : Int)] w' fun e w2 => e = .returned (.int .i64 (rootK ns z)) ∧ Below w'.heap.size w' w2) := hid fun w' h => root_any w' p c ns (by omega) (nodes_later h ha) n (by omega) hv z (by omega)
  subst hp
  obtain ⟨q, hq⟩ : ∃ q, q = ns[n].kids.length := ⟨_, rfl⟩
  rw [← hq] at c2 hfit
  rw [hkp] at c2
  have q1 : (0 : Int) < (q : Int) := by omega
  clear ha hx hf hkid hkp hz hq hv
  generalize ns[n] = x at *
  generalize rootK ns (z : Int) = r at *
  generalize ns.length = L at *
  generalize x.kind = kx at *
  by_cases r17 : r = 17
  · subst r17
    rcases hk with rfl | rfl
    all_goals
      go_enter Tryz.func44, Tryz.ntmps44
      go_wp2_with (go_at_call 77; ((with_reducible refine (Hroot.out _ ?_).mono ?_)); rotate_left; rintro e w' ⟨rfl, hb⟩; obtain ⟨g1, rfl⟩ := bout hb; clear hb)
      all_goals first
        | (go_ret; exact ⟨by simp, by repeat (first | exact Below.refl _ _ | refine bG ?_ _ | refine bI ?_ _ _ | refine bA ?_ _)⟩)
        | (repeat (first | exact Below.refl _ _ | refine bG ?_ _ | refine bI ?_ _ _ | refine bA ?_ _))
  · have r17' := ne_beq r17
    by_cases r21 : r = 21
    · subst r21
      rcases hk with rfl | rfl
      all_goals
        go_enter Tryz.func44, Tryz.ntmps44
        go_wp2_with (go_at_call 77; ((with_reducible refine (Hroot.out _ ?_).mono ?_)); rotate_left; rintro e w' ⟨rfl, hb⟩; obtain ⟨g1, rfl⟩ := bout hb; clear hb)
        all_goals first
          | (go_ret; exact ⟨by simp, by repeat (first | exact Below.refl _ _ | refine bG ?_ _ | refine bI ?_ _ _ | refine bA ?_ _)⟩)
          | (repeat (first | exact Below.refl _ _ | refine bG ?_ _ | refine bI ?_ _ _ | refine bA ?_ _))
    · have r21' := ne_beq r21
      have hd : decide (r = 17 ∨ r = 21) = false := decide_eq_false (by omega)
      rw [hd]
      clear hd r17 r21
      rcases hk with rfl | rfl
      all_goals
        go_enter Tryz.func44, Tryz.ntmps44
        go_wp2_with (go_at_call 77; ((with_reducible refine (Hroot.out _ ?_).mono ?_)); rotate_left; rintro e w' ⟨rfl, hb⟩; obtain ⟨g1, rfl⟩ := bout hb; clear hb)
        all_goals first
          | (go_ret; exact ⟨rfl, by repeat (first | exact Below.refl _ _ | refine bG ?_ _ | refine bI ?_ _ _ | refine bA ?_ _)⟩)
          | (repeat (first | exact Below.refl _ _ | refine bG ?_ _ | refine bI ?_ _ _ | refine bA ?_ _))
end Go.Proofs.YtbgjanmheagilaaGreatDoor

/- What else is asked of a block and of what is there from the beginning, walked: the reference's. Conditions: the nodes ahead are as they should be. -/
namespace Go.Proofs.YtbgjanmheagilaaGreatDoor
open Go Go.RowKit Go.Nodes
set_option linter.unusedVariables false
set_option linter.unusedSimpArgs false
def blockP (ns : List Nd) (k : Int) : Bool := decide (kindAt ns k ≠ 10 ∧ kindAt ns k ≠ 11)
theorem dropLast_at {α : Type} (l : List α) (j : Nat) (hj : j + 1 < l.length) : l.dropLast.drop j = l[j] :: l.dropLast.drop (j + 1) := by
  rw [List.drop_eq_getElem_cons (by simp; omega)]
  simp
theorem dropLast_end {α : Type} (l : List α) (j : Nat) (hj : l.length ≤ j + 1) : l.dropLast.drop j = [] := List.drop_eq_nil_of_le (by simp; omega)
set_option maxRecDepth 10000 in
set_option maxHeartbeats 4000000 in
theorem extra_block (w : World) (p : Option Addr) (c : Nat) (ns : List Nd) (hL : (ns.length : Int) ≤ 5000) (ha : NodesAt w p ns) (n : Nat) (hn : n < ns.length) (hk : ns[n].kind = 3) (hks : (ns[n].kids.length : Int) ≤ 20000) (hkid : ∀ k ∈ ns[n].kids, 0 ≤ k ∧ k < n) :
    Calls Tryz.prog 44 #[.slice p ns.length c, .int .i64 (n : Int)] w fun e w' => e = .returned (.bool (ns[n].kids.dropLast.all (blockP ns))) ∧ Below w.heap.size w w' := by
  obtain ⟨b, o, hp, hb, hx, hf, c0, c1, c2, c3⟩ := nd_at ha hn
  subst hp
  have n0 : (0 : Int) ≤ (n : Int) := by omega
  have n1 : (n : Int) < (ns.length : Int) := by omega
  have Hkid := hid hkid
  have Hf := hid hf
  have Ha := hid ha
  have hns : ns.length ≤ 5000 := by omega
  obtain ⟨L, hLL⟩ : ∃ L, L = ns.length := ⟨_, rfl⟩
  rw [← hLL] at hL n1 hns ⊢
  rw [hk] at c0
  have HL := hid hLL
  clear hx hf hkid ha hk hLL
  generalize ns[n] = x at *
  obtain ⟨q, hq⟩ : ∃ q, q = x.kids.length := ⟨_, rfl⟩
  rw [← hq] at c2 hks
  have Hq := hid hq
  clear hq
  go_enter Tryz.func44, Tryz.ntmps44
  go_wp2
  go_loop [29] (fun iv => ∃ j : Nat, iv = .int .i64 j ∧ j ≤ q ∧ Hid ((x.kids.dropLast.drop j).all (blockP ns) = x.kids.dropLast.all (blockP ns))) (fun iv => q - (intOf iv).toNat)
  case atStart => exact ⟨0, rfl, by omega, rfl⟩
  case round =>
    obtain ⟨j, rfl, hj, hR⟩ := hrel
    by_cases hjq : j < q
    · have hjl : j < x.kids.length := by have := Hq.out; omega
      obtain ⟨bk, ok, hkp, hbk, hck⟩ := kid_at Hf.out hjl
      have hge : x.kids.getD j 0 = x.kids[j] := by simp [List.getD, List.getElem?_eq_getElem hjl]
      have hkin := Hkid.out x.kids[j] (List.getElem_mem hjl)
      rw [hge] at hck
      have j0 : (0 : Int) ≤ (j : Int) := by omega
      have j1 : (j : Int) < (q : Int) := by omega
      by_cases hlast : j + 1 < q
      · have hd := dropLast_at x.kids j (by have := Hq.out; omega)
        have hr := hR.out
        rw [hd, List.all_cons] at hr
        obtain ⟨z, hz⟩ : ∃ z : Nat, x.kids[j] = (z : Int) := ⟨(x.kids[j]).toNat, by omega⟩
        rw [hz] at hr hkin hck
        have hzl : z < ns.length := by omega
        obtain ⟨b2, o2, hp2, hb2, hx2, hf2, d0, d1, d2, d3⟩ := nd_at Ha.out hzl
        cases hp2
        have hka := kindAt_of hx2
        have hP : blockP ns (z : Int) = decide (ns[z].kind ≠ 10 ∧ ns[z].kind ≠ 11) := by unfold blockP; rw [hka]
        rw [hP] at hr
        have z0 : (0 : Int) ≤ (z : Int) := by omega
        have z1 : (z : Int) < (L : Int) := by have := HL.out; omega
        have j2 : (j : Int) < (q : Int) - 1 := by omega
        have Hr := hid hr
        have hkp2 := hid hkp
        rw [hkp] at c2
        clear hR hr hd hge hx2 hf2 hka hP hz hjl hkp d1 d2 d3
        generalize ns[z] = y at *
        generalize y.kind = ky at *
        by_cases y10 : ky = 10
        · have HR : Hid (x.kids.dropLast.all (blockP ns) = false) := hid (by rw [← Hr.out, y10]; rfl)
          subst y10
          clear Hr
          rw [hkp2.out]
          go_wp2
          go_ret
          exact ⟨by rw [HR.out]; rfl, by repeat (first | exact Below.refl _ _ | refine bG ?_ _ | refine bI ?_ _ _ | refine bA ?_ _)⟩
        · have y10' := ne_beq y10
          by_cases y11 : ky = 11
          · have HR : Hid (x.kids.dropLast.all (blockP ns) = false) := hid (by rw [← Hr.out, y11]; rfl)
            subst y11
            clear Hr
            rw [hkp2.out]
            go_wp2
            go_ret
            exact ⟨by rw [HR.out]; rfl, by repeat (first | exact Below.refl _ _ | refine bG ?_ _ | refine bI ?_ _ _ | refine bA ?_ _)⟩
          · have y11' := ne_beq y11
            have HR : Hid ((x.kids.dropLast.drop (j + 1)).all (blockP ns) = x.kids.dropLast.all (blockP ns)) := hid (by
              rw [← Hr.out, decide_eq_true (⟨y10, y11⟩ : ky ≠ 10 ∧ ky ≠ 11), Bool.true_and])
            clear Hr y10 y11
            rw [hkp2.out]
            go_wp2
            go_round
            case rel => exact ⟨j + 1, by go_num, by omega, HR⟩
            case measure => simp [intOf]; omega
      · have hd := dropLast_end x.kids j (by have := Hq.out; omega)
        have hd2 := dropLast_end x.kids (j + 1) (by have := Hq.out; omega)
        have hr := hR.out
        rw [hd] at hr
        have Hr : Hid ((x.kids.dropLast.drop (j + 1)).all (blockP ns) = x.kids.dropLast.all (blockP ns)) := hid (by rw [hd2]; exact hr)
        have j2 : ¬ (j : Int) < (q : Int) - 1 := by omega
        have hkp2 := hid hkp
        rw [hkp] at c2
        generalize x.kids[j] = u at *
        clear hR hr hd hd2 hge hkp
        rw [hkp2.out]
        go_wp2
        go_round
        case rel => exact ⟨j + 1, by go_num, by omega, Hr⟩
        case measure => simp [intOf]; omega
    · obtain rfl : j = q := by omega
      have hr := hR.out
      rw [dropLast_end x.kids j (by have := Hq.out; omega)] at hr
      have Hr := hid (show x.kids.dropLast.all (blockP ns) = true from hr.symm)
      have j1 : ¬ (j : Int) < (j : Int) := by omega
      clear hR hr
      go_wp2
      go_ret
      exact ⟨by rw [Hr.out]; rfl, by repeat (first | exact Below.refl _ _ | refine bG ?_ _ | refine bI ?_ _ _ | refine bA ?_ _)⟩
end Go.Proofs.YtbgjanmheagilaaGreatDoor

/- What else is asked of what is there from the beginning, walked: the reference's. Conditions: the nodes ahead are as they should be. -/
namespace Go.Proofs.YtbgjanmheagilaaGreatDoor
open Go Go.RowKit Go.Nodes
set_option linter.unusedVariables false
set_option linter.unusedSimpArgs false
def builtinP (ns : List Nd) (x : Nd) : Bool := if rwW.contains x.text.data.toList then decide (kindAt ns (x.kids.getD 0 0) = 15) && chan1 (textAt ns (x.kids.getD 0 0)) else true
set_option maxRecDepth 10000 in
set_option maxHeartbeats 4000000 in
theorem extra_builtin (w : World) (p : Option Addr) (c : Nat) (ns : List Nd) (hL : (ns.length : Int) ≤ 5000) (ha : NodesAt w p ns) (n : Nat) (hn : n < ns.length) (hk : ns[n].kind = 21) (hks : ns[n].kids.length ≤ 20000) (hkid : ∀ k ∈ ns[n].kids, 0 ≤ k ∧ k < n)
    (hpos : rwW.contains ns[n].text.data.toList = true → 0 < ns[n].kids.length) :
    Calls Tryz.prog 44 #[.slice p ns.length c, .int .i64 (n : Int)] w fun e w' => e = .returned (.bool (builtinP ns ns[n])) ∧ Below w.heap.size w w' := by
  obtain ⟨b, o, hp, hb, hx, hf, c0, c1, c2, c3⟩ := nd_at ha hn
  subst hp
  have n0 : (0 : Int) ≤ (n : Int) := by omega
  have n1 : (n : Int) < (ns.length : Int) := by omega
  rw [hk] at c0
  by_cases hrw : rwW.contains ns[n].text.data.toList = true
  · have hfit := hpos hrw
    obtain ⟨bk, ok, hkp, hbk, hck⟩ := kid_at hf hfit
    have hkin := hkid (ns[n].kids.getD 0 0) (by rw [List.getD, List.getElem?_eq_getElem hfit]; exact List.getElem_mem hfit)
    have hB : builtinP ns ns[n] = (decide (kindAt ns (ns[n].kids.getD 0 0) = 15) && chan1 (textAt ns (ns[n].kids.getD 0 0))) := by unfold builtinP; rw [if_pos hrw]
    obtain ⟨z, hz⟩ : ∃ z : Nat, ns[n].kids.getD 0 0 = (z : Int) := ⟨(ns[n].kids.getD 0 0).toNat, by omega⟩
    rw [hz] at hck hkin hB
    rw [Nat.add_zero] at hck
    have hzl : z < ns.length := by omega
    obtain ⟨b2, o2, hp2, hb2, hx2, hf2, d0, d1, d2, d3⟩ := nd_at ha hzl
    cases hp2
    rw [kindAt_of hx2, textAt_of hx2] at hB
    have Hchan : Hid (∀ w', Calls Tryz.prog 72 #[.string ns[z].text] w' fun e w2 => e = .returned (.bool (chan1 ns[z].text.data.toList)) ∧ Below w'.heap.size w' w2) := hid fun w' => rchan_any _ w'
    have hwords : (ns[n].text.toList == [114, 101, 97, 100]) = true ∨ ((ns[n].text.toList == [114, 101, 97, 100]) = false ∧ (ns[n].text.toList == [119, 114, 105, 116, 101]) = true) := by
      rw [ByteArray.toList_eq]
      simp only [rwW, List.contains_cons, List.contains_nil, Bool.or_false, Bool.or_eq_true] at hrw
      cases e : (ns[n].text.data.toList == [114, 101, 97, 100]) with
      | true => exact .inl rfl
      | false => rw [e] at hrw; exact .inr ⟨rfl, by simpa using hrw⟩
    have HB := hid hB
    have z0 : (0 : Int) ≤ (z : Int) := by omega
    have z1 : (z : Int) < (ns.length : Int) := by omega
    obtain ⟨q, hq⟩ : ∃ q, q = ns[n].kids.length := ⟨_, rfl⟩
    rw [← hq] at c2 hfit
    rw [hkp] at c2
    have q1 : (0 : Int) < (q : Int) := by omega
    clear ha hx hf hkid hkp hz hq hpos hx2 hf2 hrw hB hk hks
    generalize builtinP ns ns[n] = R at *
    generalize ns[n] = x at *
    generalize ns[z] = y at *
    generalize ns.length = L at *
    generalize y.kind = ky at *
    generalize chan1 y.text.data.toList = ch at *
    by_cases h15 : ky = 15
    · subst h15
      have HR : Hid (R = ch) := hid (by rw [HB.out]; rfl)
      clear HB
      rcases hwords with hw1 | ⟨hw1, hw2⟩
      all_goals
        go_enter Tryz.func44, Tryz.ntmps44
        go_wp2_with (go_at_call 72; ((with_reducible refine (Hchan.out _).mono ?_)); rintro e w' ⟨rfl, hb⟩; obtain ⟨g1, rfl⟩ := bout hb; clear hb)
        go_ret
        exact ⟨by rw [HR.out]; rfl, by repeat (first | exact Below.refl _ _ | refine bG ?_ _ | refine bI ?_ _ _ | refine bA ?_ _ | refine bD ?_ | refine bN ?_ _)⟩
    · have h15' := ne_beq h15
      have HR : Hid (R = false) := hid (by rw [HB.out, decide_eq_false h15]; rfl)
      clear HB h15
      rcases hwords with hw1 | ⟨hw1, hw2⟩
      all_goals
        go_enter Tryz.func44, Tryz.ntmps44
        go_wp2_with (go_at_call 72; ((with_reducible refine (Hchan.out _).mono ?_)); rintro e w' ⟨rfl, hb⟩; obtain ⟨g1, rfl⟩ := bout hb; clear hb)
        go_ret
        exact ⟨by rw [HR.out]; rfl, by repeat (first | exact Below.refl _ _ | refine bG ?_ _ | refine bI ?_ _ _ | refine bA ?_ _ | refine bD ?_ | refine bN ?_ _)⟩
  · have hB : builtinP ns ns[n] = true := by unfold builtinP; rw [if_neg hrw]
    have hw1 : (ns[n].text.toList == [114, 101, 97, 100]) = false := by
      rw [ByteArray.toList_eq]
      cases e : (ns[n].text.data.toList == [114, 101, 97, 100]) with
      | false => rfl
      | true => exact absurd (by simp [rwW, eq_of_beq e]) hrw
    have hw2 : (ns[n].text.toList == [119, 114, 105, 116, 101]) = false := by
      rw [ByteArray.toList_eq]
      cases e : (ns[n].text.data.toList == [119, 114, 105, 116, 101]) with
      | false => rfl
      | true => exact absurd (by simp [rwW, eq_of_beq e]) hrw
    rw [hB]
    clear hB hrw ha hx hf hkid hpos hk hks
    generalize ns[n] = x at *
    generalize ns.length = L at *
    go_enter Tryz.func44, Tryz.ntmps44
    go_wp2
    go_ret
    exact ⟨rfl, by repeat (first | exact Below.refl _ _ | refine bG ?_ _ | refine bI ?_ _ _ | refine bA ?_ _ | refine bD ?_ | refine bN ?_ _)⟩
end Go.Proofs.YtbgjanmheagilaaGreatDoor

/- What else is asked of a shape and of a program, walked: the reference's. Conditions: the nodes ahead are as they should be. -/
namespace Go.Proofs.YtbgjanmheagilaaGreatDoor
open Go Go.RowKit Go.Nodes
set_option linter.unusedVariables false
set_option linter.unusedSimpArgs false
set_option maxRecDepth 10000 in
set_option maxHeartbeats 4000000 in
theorem extra_shape (w : World) (p : Option Addr) (c : Nat) (ns : List Nd) (hL : (ns.length : Int) ≤ 5000) (ha : NodesAt w p ns) (n : Nat) (hn : n < ns.length) (hk : ns[n].kind = 32) (hks : (ns[n].kids.length : Int) ≤ 20000) (hkid : ∀ k ∈ ns[n].kids, 0 ≤ k ∧ k < n) (hcap : (ns[n].kids.length : Int) ≤ (ns[n].kcap : Int)) :
    Calls Tryz.prog 44 #[.slice p ns.length c, .int .i64 (n : Int)] w fun e w' => e = .returned (.bool (decide ((ns[n].kids.map (textAt ns)).Nodup))) ∧ Below w.heap.size w w' := by
  obtain ⟨b, o, hp, hb, hx, hf, c0, c1, c2, c3⟩ := nd_at ha hn
  subst hp
  have n0 : (0 : Int) ≤ (n : Int) := by omega
  have n1 : (n : Int) < (ns.length : Int) := by omega
  have Hkid := hid hkid
  have Hf := hid hf
  have Ha := hid ha
  have hns : ns.length ≤ 5000 := by omega
  obtain ⟨L, hLL⟩ : ∃ L, L = ns.length := ⟨_, rfl⟩
  rw [← hLL] at hL n1 hns ⊢
  rw [hk] at c0
  have HL := hid hLL
  clear hx hf hkid ha hk hLL
  generalize ns[n] = x at *
  obtain ⟨q, hq⟩ : ∃ q, q = x.kids.length := ⟨_, rfl⟩
  rw [← hq] at c2 hks hcap
  have Hq := hid hq
  clear hq
  go_enter Tryz.func44, Tryz.ntmps44
  go_wp2
  go_loopw [102] (fun iv wr => ∃ (i : Nat) (g : Gro), iv = .int .i64 i ∧ i ≤ q ∧ wr = grow (w.alloc (.cells #[Value.int IntKind.i64 32, Value.string x.text, Value.slice x.kp q x.kcap, Value.int IntKind.i64 x.place] 30)) g ∧ Hid (((x.kids.take i).map (textAt ns)).Nodup)) (fun iv _ => q - (intOf iv).toNat)
  case atStart => exact ⟨0, _, rfl, by omega, (grow_refl _).symm, by simp [Hid]⟩
  case round =>
    obtain ⟨i, g, rfl, hi, rfl, hR⟩ := hrel
    by_cases hiq : i < q
    · have hil : i < x.kids.length := by have := Hq.out; omega
      obtain ⟨bk, ok, hkp, hbk, hck⟩ := kid_at Hf.out hil
      have hge : x.kids.getD i 0 = x.kids[i] := by simp [List.getD, List.getElem?_eq_getElem hil]
      have hkin := Hkid.out x.kids[i] (List.getElem_mem hil)
      rw [hge] at hck
      obtain ⟨z, hz⟩ : ∃ z : Nat, x.kids[i] = (z : Int) := ⟨(x.kids[i]).toNat, by omega⟩
      rw [hz] at hkin hck
      have hzl : z < ns.length := by omega
      obtain ⟨b2, o2, hp2, hb2, hx2, hf2, d0, d1, d2, d3⟩ := nd_at Ha.out hzl
      cases hp2
      have hti := textAt_of hx2
      have z0 : (0 : Int) ≤ (z : Int) := by omega
      have z1 : (z : Int) < (L : Int) := by have := HL.out; omega
      have i0 : (0 : Int) ≤ (i : Int) := by omega
      have i1 : (i : Int) < (q : Int) := by omega
      have i2 : (i : Int) ≤ (x.kcap : Int) := by omega
      have htake : x.kids.take (i + 1) = x.kids.take i ++ [(z : Int)] := by rw [List.take_add_one, List.getElem?_eq_getElem hil, hz]; rfl
      have Hti := hid hti
      have Htake := hid htake
      have Hkp := hid hkp
      have Hbk := hid hbk
      rw [hkp] at c2 ⊢
      clear hti htake hkp hge hx2 hf2 hz hil d0 d2 d3
      generalize ns[z].text = s1 at *
      go_wp2
      go_loopw [112] (fun jv wr => ∃ (j : Nat) (g2 : Gro), jv = .int .i64 j ∧ j ≤ i ∧ wr = grow (w.alloc (.cells #[Value.int IntKind.i64 32, Value.string x.text, Value.slice (some ⟨bk, ok, none⟩) q x.kcap, Value.int IntKind.i64 x.place] 30)) g2 ∧ Hid (∀ j' : Nat, j' < j → textAt ns (x.kids.getD j' 0) ≠ s1.data.toList)) (fun jv _ => i - (intOf jv).toNat)
      case atStart => exact ⟨0, g, rfl, by omega, rfl, fun j' h => by omega⟩
      case round =>
        obtain ⟨j, g2, rfl, hj, rfl, hJ⟩ := hrel
        by_cases hji : j < i
        · have hjl : j < x.kids.length := by have := Hq.out; omega
          obtain ⟨bk', ok', hkp', hbk', hcj⟩ := kid_at Hf.out hjl
          have hge : x.kids.getD j 0 = x.kids[j] := by simp [List.getD, List.getElem?_eq_getElem hjl]
          have hkin2 := Hkid.out x.kids[j] (List.getElem_mem hjl)
          rw [Hkp.out] at hkp'
          cases hkp'
          rw [hge] at hcj
          obtain ⟨y, hy⟩ : ∃ y : Nat, x.kids[j] = (y : Int) := ⟨(x.kids[j]).toNat, by omega⟩
          rw [hy] at hkin2 hcj
          have hyl : y < ns.length := by omega
          obtain ⟨b3, o3, hp3, hb3, hx3, hf3, f0, f1, f2, f3⟩ := nd_at Ha.out hyl
          cases hp3
          have htj := textAt_of hx3
          have y0 : (0 : Int) ≤ (y : Int) := by omega
          have y1 : (y : Int) < (L : Int) := by have := HL.out; omega
          have j0 : (0 : Int) ≤ (j : Int) := by omega
          have j1 : (j : Int) < (i : Int) := by omega
          have Htj := hid htj
          have Hgj := hid (hge.trans hy)
          clear htj hge hx3 hf3 hy f0 f2 f3 hbk'
          generalize ns[y].text = s2 at *
          cases he : (s1.toList == s2.toList) with
          | true =>
            have hno : ¬ ((x.kids.map (textAt ns)).Nodup) := fun h => by
              have h2 : (x.kids.map (textAt ns))[i]? = (x.kids.map (textAt ns))[j]? := by
                have e1 : x.kids[i]? = some (z : Int) := by
                  have := Htake.out
                  have h3 := congrArg (fun l => l[i]?) this
                  simp only [List.getElem?_take_of_lt (Nat.lt_succ_self i)] at h3
                  rw [h3, List.getElem?_append_right (by simp; omega)]
                  simp [show min i x.kids.length = i by have := Hq.out; omega]
                have e2 : x.kids[j]? = some (y : Int) := by
                  rw [List.getElem?_eq_getElem hjl, ← Hgj.out]
                  simp [List.getD, List.getElem?_eq_getElem hjl]
                rw [List.getElem?_map, List.getElem?_map, e1, e2]
                simp only [Option.map_some]
                rw [Hti.out, Htj.out]
                congr 1
                have := eq_of_beq he
                rwa [ByteArray.toList_eq, ByteArray.toList_eq] at this
              have h4 := (List.getElem?_inj (by simp; have := Hq.out; omega) h).1 h2
              omega
            have HD : Hid (decide ((x.kids.map (textAt ns)).Nodup) = false) := hid (decide_eq_false hno)
            clear hno
            go_wp2
            go_quiet (fail)
            go_wp2
            go_ret
            exact ⟨by rw [HD.out]; rfl, by repeat (first | exact Below.refl _ _ | refine bG ?_ _ | refine bI ?_ _ _ | refine bA ?_ _ | refine bD ?_ | refine bN ?_ _)⟩
          | false =>
            have Hne : Hid (∀ j' : Nat, j' < j + 1 → textAt ns (x.kids.getD j' 0) ≠ s1.data.toList) := hid fun j' h => by
              rcases Nat.lt_or_ge j' j with h2 | h2
              · exact hJ.out j' h2
              · obtain rfl : j' = j := by omega
                rw [Hgj.out, Htj.out]
                intro e
                rw [ByteArray.toList_eq, ByteArray.toList_eq, e] at he
                simp at he
            clear hJ
            go_wp2
            go_quiet (fail)
            go_wp2
            go_roundw
            case rel => exact ⟨j + 1, _, by go_num, by omega, drewN_grow _ _ _, Hne⟩
            case measure => simp [intOf]; omega
        · obtain rfl : j = i := by omega
          have HN : Hid (((x.kids.take (j + 1)).map (textAt ns)).Nodup) := hid (by
            rw [Htake.out, List.map_append, List.map_cons, List.map_nil, Hti.out, List.nodup_append]
            refine ⟨hR.out, by simp, fun a ha b' hb' e => ?_⟩
            simp at hb'
            subst hb'
            subst e
            obtain ⟨k, hk1, hk2⟩ := List.mem_map.1 ha
            obtain ⟨j', hj', hk3⟩ := List.mem_iff_getElem.1 hk1
            rw [List.length_take] at hj'
            rw [List.getElem_take] at hk3
            refine hJ.out j' (by omega) ?_
            rw [List.getD, List.getElem?_eq_getElem (by omega), hk3]
            exact hk2)
          have j1 : ¬ (j : Int) < (j : Int) := by omega
          clear hJ hR
          go_wp2
          go_roundw
          case rel => exact ⟨j + 1, _, by go_num, by omega, rfl, HN⟩
          case measure => simp [intOf]; omega
    · obtain rfl : i = q := by omega
      have hr := hR.out
      rw [List.take_of_length_le (by have := Hq.out; omega)] at hr
      have HD : Hid (decide ((x.kids.map (textAt ns)).Nodup) = true) := hid (decide_eq_true hr)
      have j1 : ¬ (i : Int) < (i : Int) := by omega
      clear hR hr
      go_wp2
      go_ret
      exact ⟨by rw [HD.out]; rfl, by repeat (first | exact Below.refl _ _ | refine bG ?_ _ | refine bI ?_ _ _ | refine bA ?_ _ | refine bD ?_ | refine bN ?_ _)⟩
end Go.Proofs.YtbgjanmheagilaaGreatDoor

/- What else is asked of a program, walked: the reference's. Conditions: the nodes ahead are as they should be. -/
namespace Go.Proofs.YtbgjanmheagilaaGreatDoor
open Go Go.RowKit Go.Nodes
set_option linter.unusedVariables false
set_option linter.unusedSimpArgs false
theorem first_eq {s t : ByteArray} (hs : 0 < s.size) (ht : 0 < t.size) : ((s[0].toNat : Int) == (t[0].toNat : Int)) = decide (s.data.toList.take 1 = t.data.toList.take 1) := by
  have e : ∀ (u : ByteArray) (h : 0 < u.size), u.data.toList.take 1 = [u[0]] := fun u h => by
    have hl : 0 < u.data.toList.length := by simpa using h
    rw [List.take_one, List.head?_eq_getElem?, List.getElem?_eq_getElem hl]
    simp [ByteArray.getElem_eq_getElem_data]
  rw [e s hs, e t ht]
  cases h : ((s[0].toNat : Int) == (t[0].toNat : Int)) with
  | true =>
    have := eq_of_beq h
    have h2 : s[0] = t[0] := UInt8.toNat_inj.1 (by omega)
    rw [h2, decide_eq_true rfl]
  | false =>
    rw [decide_eq_false]
    intro h2
    rw [List.cons.inj h2 |>.1] at h
    simp at h
set_option maxRecDepth 10000 in
set_option maxHeartbeats 4000000 in
theorem extra_program (w : World) (p : Option Addr) (c : Nat) (ns : List Nd) (hL : (ns.length : Int) ≤ 5000) (ha : NodesAt w p ns) (n : Nat) (hn : n < ns.length) (hk : ns[n].kind = 1) (hks : (ns[n].kids.length : Int) ≤ 20000) (hkid : ∀ k ∈ ns[n].kids, 0 ≤ k ∧ k < n) (hpos : 0 < ns[n].kids.length) (htx : ∀ k ∈ ns[n].kids.dropLast, 0 < (textAt ns k).length) (hcap : (ns[n].kids.length : Int) ≤ (ns[n].kcap : Int)) :
    Calls Tryz.prog 44 #[.slice p ns.length c, .int .i64 (n : Int)] w fun e w' => e = .returned (.bool (decide ((ns[n].kids.dropLast.map (fun k => (textAt ns k).take 1)).Nodup))) ∧ Below w.heap.size w w' := by
  obtain ⟨b, o, hp, hb, hx, hf, c0, c1, c2, c3⟩ := nd_at ha hn
  subst hp
  have n0 : (0 : Int) ≤ (n : Int) := by omega
  have n1 : (n : Int) < (ns.length : Int) := by omega
  have Hkid := hid hkid
  have Htx := hid htx
  have Hf := hid hf
  have Ha := hid ha
  have hns : ns.length ≤ 5000 := by omega
  obtain ⟨L, hLL⟩ : ∃ L, L = ns.length := ⟨_, rfl⟩
  rw [← hLL] at hL n1 hns ⊢
  rw [hk] at c0
  have HL := hid hLL
  clear hx hf hkid ha hk hLL htx
  generalize ns[n] = x at *
  obtain ⟨q, hq⟩ : ∃ q, q = x.kids.length := ⟨_, rfl⟩
  rw [← hq] at c2 hks hcap hpos
  obtain ⟨r, hr⟩ : ∃ r, q = r + 1 := ⟨q - 1, by omega⟩
  have hr1 : (q : Int) - 1 = (r : Int) := by omega
  have hr2 : (r : Int) ≤ (x.kcap : Int) := by omega
  have hr3 : (1 : Int) ≤ (q : Int) := by omega
  have Hr := hid hr
  clear hr
  have Hq := hid hq
  clear hq
  go_enter Tryz.func44, Tryz.ntmps44
  go_wp2
  go_loopw [139] (fun iv wr => ∃ (i : Nat) (g : Gro), iv = .int .i64 i ∧ i ≤ r ∧ wr = grow (w.alloc (.cells #[Value.int IntKind.i64 1, Value.string x.text, Value.slice x.kp q x.kcap, Value.int IntKind.i64 x.place] 30)) g ∧ Hid (((x.kids.take i).map (fun k => (textAt ns k).take 1)).Nodup)) (fun iv _ => r - (intOf iv).toNat)
  case atStart => exact ⟨0, _, rfl, by omega, (grow_refl _).symm, by simp [Hid]⟩
  case round =>
    obtain ⟨i, g, rfl, hi, rfl, hR⟩ := hrel
    by_cases hiq : i < r
    · have hil : i < x.kids.length := by have := Hq.out; have := Hr.out; omega
      obtain ⟨bk, ok, hkp, hbk, hck⟩ := kid_at Hf.out hil
      have hge : x.kids.getD i 0 = x.kids[i] := by simp [List.getD, List.getElem?_eq_getElem hil]
      have hkin := Hkid.out x.kids[i] (List.getElem_mem hil)
      rw [hge] at hck
      obtain ⟨z, hz⟩ : ∃ z : Nat, x.kids[i] = (z : Int) := ⟨(x.kids[i]).toNat, by omega⟩
      rw [hz] at hkin hck
      have hzl : z < ns.length := by omega
      obtain ⟨b2, o2, hp2, hb2, hx2, hf2, d0, d1, d2, d3⟩ := nd_at Ha.out hzl
      cases hp2
      have hti := textAt_of hx2
      have z0 : (0 : Int) ≤ (z : Int) := by omega
      have z1 : (z : Int) < (L : Int) := by have := HL.out; omega
      have i0 : (0 : Int) ≤ (i : Int) := by omega
      have i1 : (i : Int) < (r : Int) := by omega
      have i2 : (i : Int) ≤ (x.kcap : Int) := by omega
      have htake : x.kids.take (i + 1) = x.kids.take i ++ [(z : Int)] := by rw [List.take_add_one, List.getElem?_eq_getElem hil, hz]; rfl
      have hs1 : 0 < ns[z].text.size := by
        have h2 : (z : Int) ∈ x.kids.dropLast := by
          rw [← hz]
          have h3 : i < x.kids.dropLast.length := by simp; have := Hq.out; have := Hr.out; omega
          have h4 : x.kids.dropLast[i] = x.kids[i] := by simp
          rw [← h4]; exact List.getElem_mem h3
        have := Htx.out _ h2
        rw [hti] at this
        simpa using this
      have s1a : (0 : Int) < (ns[z].text.size : Int) := by omega
      have Hti := hid hti
      have Htake := hid htake
      have Hkp := hid hkp
      have Hbk := hid hbk
      rw [hkp] at c2 ⊢
      clear hti htake hkp hge hx2 hf2 hz hil d0 d2 d3
      generalize ns[z].text = s1 at *
      go_wp2
      go_loopw [149] (fun jv wr => ∃ (j : Nat) (g2 : Gro), jv = .int .i64 j ∧ j ≤ i ∧ wr = grow (w.alloc (.cells #[Value.int IntKind.i64 1, Value.string x.text, Value.slice (some ⟨bk, ok, none⟩) q x.kcap, Value.int IntKind.i64 x.place] 30)) g2 ∧ Hid (∀ j' : Nat, j' < j → (textAt ns (x.kids.getD j' 0)).take 1 ≠ s1.data.toList.take 1)) (fun jv _ => i - (intOf jv).toNat)
      case atStart => exact ⟨0, g, rfl, by omega, rfl, fun j' h => by omega⟩
      case round =>
        obtain ⟨j, g2, rfl, hj, rfl, hJ⟩ := hrel
        by_cases hji : j < i
        · have hjl : j < x.kids.length := by have := Hq.out; have := Hr.out; omega
          obtain ⟨bk', ok', hkp', hbk', hcj⟩ := kid_at Hf.out hjl
          have hge : x.kids.getD j 0 = x.kids[j] := by simp [List.getD, List.getElem?_eq_getElem hjl]
          have hkin2 := Hkid.out x.kids[j] (List.getElem_mem hjl)
          rw [Hkp.out] at hkp'
          cases hkp'
          rw [hge] at hcj
          obtain ⟨y, hy⟩ : ∃ y : Nat, x.kids[j] = (y : Int) := ⟨(x.kids[j]).toNat, by omega⟩
          rw [hy] at hkin2 hcj
          have hyl : y < ns.length := by omega
          obtain ⟨b3, o3, hp3, hb3, hx3, hf3, f0, f1, f2, f3⟩ := nd_at Ha.out hyl
          cases hp3
          have htj := textAt_of hx3
          have y0 : (0 : Int) ≤ (y : Int) := by omega
          have y1 : (y : Int) < (L : Int) := by have := HL.out; omega
          have j0 : (0 : Int) ≤ (j : Int) := by omega
          have j1 : (j : Int) < (i : Int) := by omega
          have hs2 : 0 < ns[y].text.size := by
            have h2 : (y : Int) ∈ x.kids.dropLast := by
              rw [← hy]
              have h3 : j < x.kids.dropLast.length := by simp; have := Hq.out; have := Hr.out; omega
              have h4 : x.kids.dropLast[j] = x.kids[j] := by simp
              rw [← h4]; exact List.getElem_mem h3
            have := Htx.out _ h2
            rw [htj] at this
            simpa using this
          have s2a : (0 : Int) < (ns[y].text.size : Int) := by omega
          have Htj := hid htj
          have Hgj := hid (hge.trans hy)
          clear htj hge hx3 hf3 hy f0 f2 f3 hbk'
          generalize ns[y].text = s2 at *
          have hfe := hid (first_eq hs1 hs2)
          obtain ⟨b1, hb1'⟩ : ∃ b1, (s1[0]'hs1).toNat = b1 := ⟨_, rfl⟩
          obtain ⟨b2', hb2'⟩ : ∃ b2, (s2[0]'hs2).toNat = b2 := ⟨_, rfl⟩
          have hfe2 := hfe.out
          rw [hb1', hb2'] at hfe2
          have Hfe := hid hfe2
          clear hfe hfe2
          cases he : ((b1 : Int) == (b2' : Int)) with
          | true =>
            have hno : ¬ ((x.kids.dropLast.map (fun k => (textAt ns k).take 1)).Nodup) := fun h => by
              have h2 : (x.kids.dropLast.map (fun k => (textAt ns k).take 1))[i]? = (x.kids.dropLast.map (fun k => (textAt ns k).take 1))[j]? := by
                have e1 : x.kids[i]? = some (z : Int) := by
                  have := Htake.out
                  have h3 := congrArg (fun l => l[i]?) this
                  simp only [List.getElem?_take_of_lt (Nat.lt_succ_self i)] at h3
                  rw [h3, List.getElem?_append_right (by simp; omega)]
                  simp [show min i x.kids.length = i by have := Hq.out; have := Hr.out; omega]
                have e2 : x.kids[j]? = some (y : Int) := by
                  rw [List.getElem?_eq_getElem hjl, ← Hgj.out]
                  simp [List.getD, List.getElem?_eq_getElem hjl]
                have d1 : x.kids.dropLast[i]? = x.kids[i]? := by rw [List.dropLast_eq_take, List.getElem?_take_of_lt (by have := Hq.out; have := Hr.out; omega)]
                have d2 : x.kids.dropLast[j]? = x.kids[j]? := by rw [List.dropLast_eq_take, List.getElem?_take_of_lt (by have := Hq.out; have := Hr.out; omega)]
                rw [List.getElem?_map, List.getElem?_map, d1, d2, e1, e2]
                simp only [Option.map_some]
                rw [Hti.out, Htj.out]
                congr 1
                have := Hfe.out
                rw [he] at this
                exact of_decide_eq_true this.symm
              have h4 := (List.getElem?_inj (by simp; have := Hq.out; have := Hr.out; omega) h).1 h2
              omega
            have HD : Hid (decide ((x.kids.dropLast.map (fun k => (textAt ns k).take 1)).Nodup) = false) := hid (decide_eq_false hno)
            clear hno
            go_wp2
            go_quiet (fail)
            go_wp2
            go_ret
            exact ⟨by first | (rw [HD.out]; rfl) | (rw [← List.map_dropLast, HD.out]; rfl), by repeat (first | exact Below.refl _ _ | refine bG ?_ _ | refine bI ?_ _ _ | refine bA ?_ _ | refine bD ?_ | refine bN ?_ _)⟩
          | false =>
            have Hne : Hid (∀ j' : Nat, j' < j + 1 → (textAt ns (x.kids.getD j' 0)).take 1 ≠ s1.data.toList.take 1) := hid fun j' h => by
              rcases Nat.lt_or_ge j' j with h2 | h2
              · exact hJ.out j' h2
              · obtain rfl : j' = j := by omega
                rw [Hgj.out, Htj.out]
                intro e
                have h5 := Hfe.out
                rw [he] at h5
                exact absurd (decide_eq_true e.symm) (by rw [← h5]; simp)
            clear hJ
            go_wp2
            go_quiet (fail)
            go_wp2
            go_roundw
            case rel => exact ⟨j + 1, _, by go_num, by omega, drewN_grow _ _ _, Hne⟩
            case measure => simp [intOf]; omega
        · obtain rfl : j = i := by omega
          have HN : Hid (((x.kids.take (j + 1)).map (fun k => (textAt ns k).take 1)).Nodup) := hid (by
            rw [Htake.out, List.map_append, List.map_cons, List.map_nil, Hti.out, List.nodup_append]
            refine ⟨hR.out, by simp, fun a ha b' hb' e => ?_⟩
            simp at hb'
            subst hb'
            subst e
            obtain ⟨k, hk1, hk2⟩ := List.mem_map.1 ha
            obtain ⟨j', hj', hk3⟩ := List.mem_iff_getElem.1 hk1
            rw [List.length_take] at hj'
            rw [List.getElem_take] at hk3
            refine hJ.out j' (by omega) ?_
            rw [List.getD, List.getElem?_eq_getElem (by omega), Option.getD_some, hk3]
            exact hk2)
          have j1 : ¬ (j : Int) < (j : Int) := by omega
          clear hJ hR
          go_wp2
          go_roundw
          case rel => exact ⟨j + 1, _, by go_num, by omega, rfl, HN⟩
          case measure => simp [intOf]; omega
    · obtain rfl : i = r := by omega
      have hr := hR.out
      rw [show x.kids.take i = x.kids.dropLast by rw [List.dropLast_eq_take]; congr 1; have := Hq.out; have := Hr.out; omega] at hr
      have HD : Hid (decide ((x.kids.dropLast.map (fun k => (textAt ns k).take 1)).Nodup) = true) := hid (decide_eq_true hr)
      have j1 : ¬ (i : Int) < (i : Int) := by omega
      clear hR hr
      go_wp2
      go_ret
      exact ⟨by first | (rw [HD.out]; rfl) | (rw [← List.map_dropLast, HD.out]; rfl), by repeat (first | exact Below.refl _ _ | refine bG ?_ _ | refine bI ?_ _ _ | refine bA ?_ _ | refine bD ?_ | refine bN ?_ _)⟩
end Go.Proofs.YtbgjanmheagilaaGreatDoor

/- What else is asked of a node: the reference's, of any kind. Conditions: the nodes ahead are as they should be. -/
namespace Go.Proofs.YtbgjanmheagilaaGreatDoor
open Go Go.RowKit Go.Nodes
set_option linter.unusedVariables false
set_option linter.unusedSimpArgs false
/-- A node as it should be, but for what else is asked. -/
structure VHalf (ns : List Nd) (i : Nat) (x : Nd) : Prop where
  k1 : 1 ≤ x.kind
  k36 : x.kind ≤ 36
  kids : ∀ k ∈ x.kids, 0 ≤ k ∧ k < i
  fits : fitsF (formOf x.kind.toNat) (kindsL ns x.kids) = true
  text : textS x.kind.toNat x.text.data.toList x.kids.length = true
theorem isS_channel {k : Nat} (h : isS k 104 = true) : k = 2 := Nat.eq_of_beq_eq_true h
theorem prog_kids {ks : List Nat} (h : fitsF [104, 42, 98] ks = true) : ∀ k ∈ ks.dropLast, k = 2 := by
  unfold fitsF at h
  rw [if_neg (by decide)] at h
  split at h
  · cases h
  · split at h
    · cases h
    · rw [show ([104, 42, 98] : List UInt8).length - 2 * ([104, 42, 98] : List UInt8).count 42 = 1 by decide] at h
      have h2 : ((ks.take (ks.length - 1)).all (fun k => isS k 104) && runF (ks.length - 1) [42, 98] (ks.drop (ks.length - 1))) = true := h
      rw [Bool.and_eq_true] at h2
      intro k hk
      rw [List.dropLast_eq_take] at hk
      exact isS_channel (List.all_eq_true.1 h2.1 k hk)
theorem chan_long {l : List UInt8} (h : chanS l = true) : 0 < l.length := by
  cases l with
  | nil => cases h
  | cons a l => simp
theorem bn_rw {l : List UInt8} (h : rwW.contains l = true) : 1 ≤ bn l := by
  simp only [rwW, List.contains_cons, List.contains_nil, Bool.or_false, Bool.or_eq_true] at h
  rcases h with h | h
  · rw [eq_of_beq h]; decide
  · rw [eq_of_beq h]; decide
def Capped (ns : List Nd) : Prop := ∀ x ∈ ns, x.kids.length ≤ x.kcap
theorem prog_text {ns : List Nd} {n : Nat} {x : Nd} (hx : VHalf ns n x) (hv : VPre ns n) (hn : n ≤ ns.length) (hk : x.kind = 1) : ∀ k ∈ x.kids.dropLast, 0 < (textAt ns k).length := by
  intro k hk2
  have hf := hx.fits
  rw [hk] at hf
  have h1 := prog_kids hf (kindAt ns k).toNat (by
    unfold kindsL
    rw [← List.map_dropLast]
    exact List.mem_map.2 ⟨k, hk2, rfl⟩)
  have hkin := hx.kids k (List.dropLast_subset _ hk2)
  obtain ⟨z, rfl⟩ : ∃ z : Nat, k = (z : Int) := ⟨k.toNat, by omega⟩
  have hzl : z < ns.length := by omega
  have hg : ns[z]? = some ns[z] := List.getElem?_eq_getElem hzl
  have hvz := hv z _ (by omega) hg
  rw [kindAt_of hg] at h1
  rw [textAt_of hg]
  have := hvz.text
  rw [h1] at this
  exact chan_long this
theorem extra_any (w : World) (p : Option Addr) (c : Nat) (ns : List Nd) (hs : Small ns) (hc : Capped ns) (ha : NodesAt w p ns) (n : Nat) (hn : n < ns.length) (hv : VPre ns n) (hx : VHalf ns n ns[n]) :
    Calls Tryz.prog 44 #[.slice p ns.length c, .int .i64 (n : Int)] w fun e w' => e = .returned (.bool (extraS ns ns[n])) ∧ Below w.heap.size w w' := by
  have hL : (ns.length : Int) ≤ 5000 := by have := hs.1; omega
  have hks := (hs.2 ns[n] (List.getElem_mem hn)).1
  have hcap := hc ns[n] (List.getElem_mem hn)
  unfold extraS
  by_cases h3 : ns[n].kind = 3
  · rw [if_pos h3]
    exact extra_block w p c ns hL ha n hn h3 (by omega) hx.kids
  rw [if_neg h3]
  by_cases h67 : ns[n].kind = 6 ∨ ns[n].kind = 7
  · rw [if_pos h67]
    exact extra_base w p c ns hL ha n hn hv h67 (has_kid hx.fits (by omega)) hx.kids
  rw [if_neg h67]
  by_cases h21 : ns[n].kind = 21
  · rw [if_pos h21]
    refine extra_builtin w p c ns hL ha n hn h21 hks hx.kids fun h => ?_
    have := hx.text
    rw [h21] at this
    have h2 : bn ns[n].text.data.toList = (ns[n].kids.length : Int) := of_decide_eq_true this
    have := bn_rw h
    omega
  rw [if_neg h21]
  by_cases h32 : ns[n].kind = 32
  · rw [if_pos h32]
    exact extra_shape w p c ns hL ha n hn h32 (by omega) hx.kids (by omega)
  rw [if_neg h32]
  by_cases h1 : ns[n].kind = 1
  · rw [if_pos h1]
    exact extra_program w p c ns hL ha n hn h1 (by omega) hx.kids (has_kid hx.fits (by omega)) (prog_text hx hv (by omega) h1) (by omega)
  rw [if_neg h1]
  exact extra_other w p c ns hL ha n hn ⟨h1, h3, by omega, by omega, h21, h32⟩
end Go.Proofs.YtbgjanmheagilaaGreatDoor

/- Whether texts, as far as something cuts them, are all unlike: tree.unlike, walked. Conditions: the kids stand. -/
namespace Go.Proofs.YtbgjanmheagilaaGreatDoor
open Go Go.RowKit Go.Nodes Go.WideMaps Go.Maps Go.ChangeShapes
set_option linter.unusedVariables false
set_option linter.unusedSimpArgs false
/-- What a map that counts texts says of them. -/
structure SetOf (D : DataW Unit) (l : List (List UInt8)) : Prop where
  tidy : Tidy D
  size : Maps.size D ≤ l.length
  nodup : Maps.size D = l.length ↔ l.Nodup
  has : ∀ x, Maps.has D (.string x) = true ↔ x ∈ l
theorem str_key (x : List UInt8) : WideAt.IsKeyLit (.string x) := by unfold WideAt.IsKeyLit; trivial
theorem SetOf.nil : SetOf (.map []) [] := ⟨tidy_empty, by simp [size_eq], by simp [size_eq], by simp [has_eq]⟩
theorem SetOf.snoc {D : DataW Unit} {l : List (List UInt8)} (h : SetOf D l) (x : List UInt8) (d : DataW Unit) : SetOf (D.put (.string x) d) (l ++ [x]) := by
  have hs := size_put (k := .string x) h.tidy d
  have h1 := h.size
  have h2 := h.nodup
  have hx := h.has x
  refine ⟨h.tidy.put (str_key x) d, ?_, ?_, fun y => ?_⟩
  · rw [hs]; split <;> simp <;> omega
  · rw [hs, List.nodup_append]
    simp only [List.length_append, List.length_cons, List.length_nil]
    by_cases hm : x ∈ l
    · rw [if_pos (hx.2 hm)]
      constructor
      · intro; omega
      · rintro ⟨_, _, h3⟩; exact absurd rfl (h3 x hm x (by simp))
    · rw [if_neg (fun h => hm (hx.1 h))]
      constructor
      · intro h3; exact ⟨h2.1 (by omega), by simp, fun a ha b hb e => by simp at hb; subst hb e; exact hm ha⟩
      · rintro ⟨h3, _, _⟩; have := h2.2 h3; omega
  · by_cases e : y = x
    · subst e; rw [has_put_same h.tidy.isMap (str_key y)]; simp
    · rw [has_put_other (fun h => e (by cases h; rfl)), h.has y]; simp [e]
/-- Where the kids' texts lie. -/
def TextsAt (w : World) (p q : Option Addr) (n : Nat) (ts : List ByteArray) : Prop := ∀ (i : Nat) (t : ByteArray), ts[i]? = some t →
  ∃ b o bq oq kk : Nat, p = some ⟨b, o, none⟩ ∧ q = some ⟨bq, oq, none⟩ ∧ b < w.heap.size ∧ bq < w.heap.size ∧ kk < n ∧ w.cell? ⟨bq, oq + i, none⟩ = some (.int .i64 kk) ∧ w.cell? ⟨b, o + kk * 4 + 1, none⟩ = some (.string t)
set_option maxRecDepth 10000 in
theorem cut_all (s : ByteArray) (hs : s.size ≤ 20000) (w : World) : Calls Tryz.prog 132 #[.string s] w fun e w' => e = .returned (.string s) ∧ w = w' := by
  go_enter Tryz.func132, Tryz.ntmps132
  go_wp2
  go_ret
  exact ⟨rfl, rfl⟩
set_option maxRecDepth 100000 in
set_option maxHeartbeats 4000000 in
theorem unlike_all (w : World) (p q : Option Addr) (n c m d : Nat) (hn : (n : Int) ≤ 5000) (hm : (m : Int) ≤ 20000) (ts : List ByteArray) (hts : ts.length = m) (hk : TextsAt w p q n ts) (hc : ∀ s ∈ ts, s.size ≤ 20000) :
    Calls Tryz.prog 131 #[.slice p n c, .slice q m d, .func (.func 132) #[] #[]] w fun e w' => e = .returned (.bool (decide ((ts.map (fun s : ByteArray => s.data.toList)).Nodup))) ∧ Below w.heap.size w w' := by
  have hmm := @run_makeMap Tryz.prog
  have Hk := hid hk
  have Hts := hid hts
  have Hc := hid hc
  clear hk hts hc
  go_enter Tryz.func131, Tryz.ntmps131
  go_wp2
  go_loopw [13] (fun i wr => ∃ (k : Nat) (D : DataW Unit), k ≤ m ∧ i = .int .i64 k ∧ wr.ownsMap Tryz.prog 9 (plainElem Tryz.prog 3) w.heap.size k D ∧ Below w.heap.size w wr ∧ Hid (SetOf D ((ts.map (fun s : ByteArray => s.data.toList)).take k)))
    (fun i _ => m - (intOf i).toNat)
  case atStart => exact ⟨0, _, Nat.zero_le _, rfl, World.ownsMap_made _ _ _ _, by repeat (first | exact Below.refl _ _ | refine bG ?_ _ | refine bI ?_ _ _ | refine bA ?_ _), hid SetOf.nil⟩
  case round =>
    obtain ⟨k, D, hk, rfl, hown, hnx, hS⟩ := hrel
    by_cases hlt : k < m
    · have hkl : k < ts.length := by have := Hts.out; omega
      have hg : ts[k]? = some ts[k] := List.getElem?_eq_getElem hkl
      have hcs := Hc.out ts[k] (List.getElem_mem hkl)
      obtain ⟨b, o, bq, oq, kk, rfl, rfl, hb, hbq, hkk, h1, h2⟩ := Hk.out k _ hg
      have e1 : wr.cell? ⟨bq, oq + k, none⟩ = some (.int .i64 kk) := (hnx.cell (p := ⟨bq, oq + k, none⟩) hbq).trans h1
      have e2 : wr.cell? ⟨b, o + kk * 4 + 1, none⟩ = some (.string ts[k]) := (hnx.cell (p := ⟨b, o + kk * 4 + 1, none⟩) hb).trans h2
      have hst : (ts.map (fun s : ByteArray => s.data.toList)).take (k + 1) = (ts.map (fun s : ByteArray => s.data.toList)).take k ++ [(fun s : ByteArray => s.data.toList) ts[k]] := by
        rw [List.take_succ_eq_append_getElem (by simpa using hkl)]; simp
      clear h1 h2 hg
      generalize ts[k] = s at *
      obtain ⟨t, ht⟩ : ∃ t : ByteArray, t = s := ⟨_, rfl⟩
      have Hcut : Hid (∀ w, Calls Tryz.prog 132 #[.string s] w fun e w' => e = .returned (.string t) ∧ w = w') := hid (by rw [ht]; exact cut_all s hcs)
      have htl : (fun s : ByteArray => s.data.toList) s = t.data.toList := by subst ht; rfl
      rw [htl] at hst
      have hkey : keyOf Tryz.prog 9 (.string t) = some (.string t.data.toList) := keyOf_string_mk Tryz.underlying9 (by rw [ht]; have := hcs; unfold maxLen; omega)
      have Hst := hid hst
      have k0 : (0 : Int) ≤ (k : Int) := by omega
      have k1 : (k : Int) < (m : Int) := by omega
      have kk0 : (0 : Int) ≤ (kk : Int) := by omega
      have kk1 : (kk : Int) < (n : Int) := by omega
      clear hst htl ht hcs
      go_wp2_with (first
        | (go_at_call 132; ((with_reducible refine (Hcut.out _).mono ?_)); rintro e w' ⟨rfl, rfl⟩)
        | (at_lookup; refine wpList_lookup_own_int _ rfl _ _ 147 rfl 9 3 .i64 mlaw Tryz.underlying147 Tryz.underlying3 (zero3 _) w.heap.size k _ rfl hown _ _ rfl hkey ?_; intro c hat hwc)
        | (at_mapUpdate; refine wpList_mapUpdate_own _ rfl _ _ _ 147 rfl 9 3 mlaw Tryz.underlying147 _ w.heap.size k _ rfl hown (by unfold maxLen; omega) _ _ _ rfl rfl hkey _ [] (plainElem_int Tryz.underlying3 (wrap64_wf _)) ?_))
      intro w1 hown1 hgrow1
      have R2 := hnx.grown hgrow1 hnx.size (fun j hj => by cases hj; exact Nat.le_refl _)
      have R3 := hid (hS.out.snoc t.data.toList (.lit (.int .i64 (wrap64 (c + 1)))))
      rw [← Hst.out] at R3
      clear hgrow1 hown e1 e2 hnx hat hwc
      go_wp2
      go_roundw
      case rel => exact ⟨k + 1, _, by omega, by go_num, hown1, R2, R3⟩
      case measure => simp [intOf]; omega
    · obtain rfl : k = m := by omega
      have hS2 := hS.out
      rw [List.take_of_length_le (by rw [List.length_map, Hts.out]; exact Nat.le_refl _)] at hS2
      have hres : Hid ((((Maps.size D : Nat) : Int) == ((k : Nat) : Int)) = decide ((ts.map (fun s : ByteArray => s.data.toList)).Nodup)) := hid (by
        have h3 := hS2.nodup
        rw [List.length_map, Hts.out] at h3
        by_cases hd : (ts.map (fun s : ByteArray => s.data.toList)).Nodup
        · rw [decide_eq_true hd, h3.2 hd]; simp
        · rw [decide_eq_false hd]
          cases e : (((Maps.size D : Nat) : Int) == ((k : Nat) : Int)) with
          | false => rfl
          | true => exact absurd (h3.1 (by have := eq_of_beq e; omega)) hd)
      clear hS2 hS
      go_wp2_with (at_len; refine wpList_len_own _ rfl _ 147 rfl 9 3 Tryz.underlying147 _ w.heap.size k D rfl hown ?_)
      go_ret
      exact ⟨by rw [hres.out]; rfl, hnx⟩
set_option maxRecDepth 10000 in
theorem cut_one (s : ByteArray) (hs : 0 < s.size ∧ s.size ≤ 20000) (w : World) : Calls Tryz.prog 133 #[.string s] w fun e w' => e = .returned (.string (s.extract 0 1)) ∧ w = w' := by
  obtain ⟨h0, h1⟩ := hs
  go_enter Tryz.func133, Tryz.ntmps133
  go_wp2
  go_ret
  exact ⟨rfl, rfl⟩
set_option maxRecDepth 100000 in
set_option maxHeartbeats 4000000 in
theorem unlike_one (w : World) (p q : Option Addr) (n c m d : Nat) (hn : (n : Int) ≤ 5000) (hm : (m : Int) ≤ 20000) (ts : List ByteArray) (hts : ts.length = m) (hk : TextsAt w p q n ts) (hc : ∀ s ∈ ts, 0 < s.size ∧ s.size ≤ 20000) :
    Calls Tryz.prog 131 #[.slice p n c, .slice q m d, .func (.func 133) #[] #[]] w fun e w' => e = .returned (.bool (decide ((ts.map (fun s : ByteArray => s.data.toList.take 1)).Nodup))) ∧ Below w.heap.size w w' := by
  have hmm := @run_makeMap Tryz.prog
  have Hk := hid hk
  have Hts := hid hts
  have Hc := hid hc
  clear hk hts hc
  go_enter Tryz.func131, Tryz.ntmps131
  go_wp2
  go_loopw [13] (fun i wr => ∃ (k : Nat) (D : DataW Unit), k ≤ m ∧ i = .int .i64 k ∧ wr.ownsMap Tryz.prog 9 (plainElem Tryz.prog 3) w.heap.size k D ∧ Below w.heap.size w wr ∧ Hid (SetOf D ((ts.map (fun s : ByteArray => s.data.toList.take 1)).take k)))
    (fun i _ => m - (intOf i).toNat)
  case atStart => exact ⟨0, _, Nat.zero_le _, rfl, World.ownsMap_made _ _ _ _, by repeat (first | exact Below.refl _ _ | refine bG ?_ _ | refine bI ?_ _ _ | refine bA ?_ _), hid SetOf.nil⟩
  case round =>
    obtain ⟨k, D, hk, rfl, hown, hnx, hS⟩ := hrel
    by_cases hlt : k < m
    · have hkl : k < ts.length := by have := Hts.out; omega
      have hg : ts[k]? = some ts[k] := List.getElem?_eq_getElem hkl
      have hcs := Hc.out ts[k] (List.getElem_mem hkl)
      obtain ⟨b, o, bq, oq, kk, rfl, rfl, hb, hbq, hkk, h1, h2⟩ := Hk.out k _ hg
      have e1 : wr.cell? ⟨bq, oq + k, none⟩ = some (.int .i64 kk) := (hnx.cell (p := ⟨bq, oq + k, none⟩) hbq).trans h1
      have e2 : wr.cell? ⟨b, o + kk * 4 + 1, none⟩ = some (.string ts[k]) := (hnx.cell (p := ⟨b, o + kk * 4 + 1, none⟩) hb).trans h2
      have hst : (ts.map (fun s : ByteArray => s.data.toList.take 1)).take (k + 1) = (ts.map (fun s : ByteArray => s.data.toList.take 1)).take k ++ [(fun s : ByteArray => s.data.toList.take 1) ts[k]] := by
        rw [List.take_succ_eq_append_getElem (by simpa using hkl)]; simp
      clear h1 h2 hg
      generalize ts[k] = s at *
      obtain ⟨t, ht⟩ : ∃ t : ByteArray, t = (s.extract 0 1) := ⟨_, rfl⟩
      have Hcut : Hid (∀ w, Calls Tryz.prog 133 #[.string s] w fun e w' => e = .returned (.string t) ∧ w = w') := hid (by rw [ht]; exact cut_one s hcs)
      have htl : (fun s : ByteArray => s.data.toList.take 1) s = t.data.toList := by subst ht; simp [ByteArray.extract_mk, Array.toList_extract]
      rw [htl] at hst
      have hkey : keyOf Tryz.prog 9 (.string t) = some (.string t.data.toList) := keyOf_string_mk Tryz.underlying9 (by rw [ht]; rw [ByteArray.size_extract]; have := hcs.2; unfold maxLen; omega)
      have Hst := hid hst
      have k0 : (0 : Int) ≤ (k : Int) := by omega
      have k1 : (k : Int) < (m : Int) := by omega
      have kk0 : (0 : Int) ≤ (kk : Int) := by omega
      have kk1 : (kk : Int) < (n : Int) := by omega
      clear hst htl ht hcs
      go_wp2_with (first
        | (go_at_call 133; ((with_reducible refine (Hcut.out _).mono ?_)); rintro e w' ⟨rfl, rfl⟩)
        | (at_lookup; refine wpList_lookup_own_int _ rfl _ _ 147 rfl 9 3 .i64 mlaw Tryz.underlying147 Tryz.underlying3 (zero3 _) w.heap.size k _ rfl hown _ _ rfl hkey ?_; intro c hat hwc)
        | (at_mapUpdate; refine wpList_mapUpdate_own _ rfl _ _ _ 147 rfl 9 3 mlaw Tryz.underlying147 _ w.heap.size k _ rfl hown (by unfold maxLen; omega) _ _ _ rfl rfl hkey _ [] (plainElem_int Tryz.underlying3 (wrap64_wf _)) ?_))
      intro w1 hown1 hgrow1
      have R2 := hnx.grown hgrow1 hnx.size (fun j hj => by cases hj; exact Nat.le_refl _)
      have R3 := hid (hS.out.snoc t.data.toList (.lit (.int .i64 (wrap64 (c + 1)))))
      rw [← Hst.out] at R3
      clear hgrow1 hown e1 e2 hnx hat hwc
      go_wp2
      go_roundw
      case rel => exact ⟨k + 1, _, by omega, by go_num, hown1, R2, R3⟩
      case measure => simp [intOf]; omega
    · obtain rfl : k = m := by omega
      have hS2 := hS.out
      rw [List.take_of_length_le (by rw [List.length_map, Hts.out]; exact Nat.le_refl _)] at hS2
      have hres : Hid ((((Maps.size D : Nat) : Int) == ((k : Nat) : Int)) = decide ((ts.map (fun s : ByteArray => s.data.toList.take 1)).Nodup)) := hid (by
        have h3 := hS2.nodup
        rw [List.length_map, Hts.out] at h3
        by_cases hd : (ts.map (fun s : ByteArray => s.data.toList.take 1)).Nodup
        · rw [decide_eq_true hd, h3.2 hd]; simp
        · rw [decide_eq_false hd]
          cases e : (((Maps.size D : Nat) : Int) == ((k : Nat) : Int)) with
          | false => rfl
          | true => exact absurd (h3.1 (by have := eq_of_beq e; omega)) hd)
      clear hS2 hS
      go_wp2_with (at_len; refine wpList_len_own _ rfl _ 147 rfl 9 3 Tryz.underlying147 _ w.heap.size k D rfl hown ?_)
      go_ret
      exact ⟨by rw [hres.out]; rfl, hnx⟩
end Go.Proofs.YtbgjanmheagilaaGreatDoor

/- What else is asked of a node: tree.more, walked, of most kinds. Conditions: the nodes ahead are as they should be. -/
namespace Go.Proofs.YtbgjanmheagilaaGreatDoor
open Go Go.RowKit Go.Nodes
set_option linter.unusedVariables false
set_option linter.unusedSimpArgs false
theorem ne_bne {a b : Int} (h : a ≠ b) : (a != b) = true := by simp [bne, ne_beq h]
@[reducible] def ndV (x : Nd) : Value := .agg #[.int .i64 x.kind, .string x.text, .slice x.kp x.kids.length x.kcap, .int .i64 x.place]
set_option maxRecDepth 10000 in
set_option maxHeartbeats 4000000 in
theorem more_other (w : World) (p : Option Addr) (L c : Nat) (x : Nd) (hk : x.kind ≠ 1 ∧ x.kind ≠ 3 ∧ x.kind ≠ 6 ∧ x.kind ≠ 7 ∧ x.kind ≠ 21 ∧ x.kind ≠ 32) :
    Calls Tryz.prog 94 #[.slice p L c, ndV x] w fun e w' => e = must_end true ∧ Below w.heap.size w w' := by
  have e1 := ne_beq hk.1
  have e2 := ne_beq hk.2.1
  have e3 := ne_beq hk.2.2.1
  have e4 := ne_beq hk.2.2.2.1
  have e5 := ne_beq hk.2.2.2.2.1
  have e6 := ne_beq hk.2.2.2.2.2
  obtain ⟨kx, text, kp, kcap, kids, place⟩ := x
  simp only at e1 e2 e3 e4 e5 e6
  clear hk
  generalize kids.length = q
  go_enter Tryz.func94, Tryz.ntmps94
  go_wp2
  go_end0
  exact ⟨rfl, by repeat (first | exact Below.refl _ _ | refine bG ?_ _ | refine bI ?_ _ _ | refine bA ?_ _)⟩
set_option maxRecDepth 10000 in
set_option maxHeartbeats 4000000 in
theorem more_block (w : World) (p : Option Addr) (c : Nat) (ns : List Nd) (hL : (ns.length : Int) ≤ 5000) (ha : NodesAt w p ns) (n : Nat) (hn : n < ns.length) (text : ByteArray) (kp : Option Addr) (kcap : Nat) (kids : List Int) (place : Int) (hf : IntsAt w kp kids) (hks : (kids.length : Int) ≤ 20000) (hkid : ∀ k ∈ kids, 0 ≤ k ∧ k < n) :
    Calls Tryz.prog 94 #[.slice p ns.length c, ndV ⟨3, text, kp, kcap, kids, place⟩] w fun e w' => e = must_end (kids.dropLast.all (blockP ns)) ∧ Below w.heap.size w w' := by
  have Hkid := hid hkid
  have Hf := hid hf
  have Ha := hid ha
  have hns : ns.length ≤ 5000 := by omega
  obtain ⟨L, hLL⟩ : ∃ L, L = ns.length := ⟨_, rfl⟩
  rw [← hLL] at hL hns ⊢
  have HL := hid hLL
  obtain ⟨q, hq⟩ : ∃ q, q = kids.length := ⟨_, rfl⟩
  unfold ndV
  simp only
  rw [← hq] at hks ⊢
  have Hq := hid hq
  clear hkid hf ha hLL hq
  go_enter Tryz.func94, Tryz.ntmps94
  go_wp2
  go_loopw [14] (fun iv wr => ∃ (j : Nat) (g : Gro), iv = .int .i64 j ∧ j ≤ q ∧ wr = grow (w.alloc (.cells #[.int .i64 3, .string text, .slice kp q kcap, .int .i64 place] 30)) g ∧ Hid ((kids.dropLast.drop j).all (blockP ns) = kids.dropLast.all (blockP ns))) (fun iv _ => q - (intOf iv).toNat)
  case atStart => exact ⟨0, _, rfl, by omega, (grow_refl _).symm, rfl⟩
  case round =>
    obtain ⟨j, g, rfl, hj, rfl, hR⟩ := hrel
    by_cases hjq : j < q
    · have hjl : j < kids.length := by have := Hq.out; omega
      rcases Hf.out with ix | ⟨bk, ok, hkp, hbk, hck⟩
      · subst ix; simp at hjl
      subst hkp
      replace hck := hck j hjl
      have hkin := Hkid.out kids[j] (List.getElem_mem hjl)
      have j0 : (0 : Int) ≤ (j : Int) := by omega
      have j1 : (j : Int) < (q : Int) := by omega
      by_cases hlast : j + 1 < q
      · have hd := dropLast_at kids j (by have := Hq.out; omega)
        have hr := hR.out
        rw [hd, List.all_cons] at hr
        obtain ⟨z, hz⟩ : ∃ z : Nat, kids[j] = (z : Int) := ⟨(kids[j]).toNat, by omega⟩
        rw [hz] at hr hkin hck
        have hzl : z < ns.length := by omega
        obtain ⟨b2, o2, hp2, hb2, hx2, hf2, d0, d1, d2, d3⟩ := nd_at Ha.out hzl
        subst hp2
        have hka := kindAt_of hx2
        have hP : blockP ns (z : Int) = decide (ns[z].kind ≠ 10 ∧ ns[z].kind ≠ 11) := by unfold blockP; rw [hka]
        rw [hP] at hr
        have z0 : (0 : Int) ≤ (z : Int) := by omega
        have z1 : (z : Int) < (L : Int) := by have := HL.out; omega
        have j2 := ne_beq (show (j : Int) ≠ (q : Int) - 1 by omega)
        have Hr := hid hr
        clear hR hr hd hx2 hf2 hka hP hz hjl d1 d2 d3
        generalize ns[z] = y at *
        generalize y.kind = ky at *
        by_cases y10 : ky = 10
        · have HR : Hid (kids.dropLast.all (blockP ns) = false) := hid (by rw [← Hr.out, y10]; rfl)
          subst y10
          clear Hr
          go_wp2_with (go_at_call 91; ((with_reducible refine (must_no _).mono ?_)); rintro e w' ⟨rfl, hw⟩; rw [hw]; clear hw w')
          exact ⟨rfl, by rw [HR.out]; rfl, by repeat (first | exact Below.refl _ _ | refine bG ?_ _ | refine bI ?_ _ _ | refine bA ?_ _)⟩
        · have y10' := ne_bne y10
          by_cases y11 : ky = 11
          · have HR : Hid (kids.dropLast.all (blockP ns) = false) := hid (by rw [← Hr.out, y11]; rfl)
            subst y11
            clear Hr
            go_wp2_with (go_at_call 91; ((with_reducible refine (must_no _).mono ?_)); rintro e w' ⟨rfl, hw⟩; rw [hw]; clear hw w')
            exact ⟨rfl, by rw [HR.out]; rfl, by repeat (first | exact Below.refl _ _ | refine bG ?_ _ | refine bI ?_ _ _ | refine bA ?_ _)⟩
          · have y11' := ne_bne y11
            have HR : Hid ((kids.dropLast.drop (j + 1)).all (blockP ns) = kids.dropLast.all (blockP ns)) := hid (by
              rw [← Hr.out, decide_eq_true (⟨y10, y11⟩ : ky ≠ 10 ∧ ky ≠ 11), Bool.true_and])
            clear Hr y10 y11
            go_wp2_with (go_at_call 91; ((with_reducible refine (must_yes _).mono ?_)); rintro e w' ⟨rfl, hw⟩; rw [hw]; clear hw w')
            go_roundw
            case rel => exact ⟨j + 1, _, by go_num, by omega, rfl, HR⟩
            case measure => simp [intOf]; omega
      · have hd := dropLast_end kids j (by have := Hq.out; omega)
        have hd2 := dropLast_end kids (j + 1) (by have := Hq.out; omega)
        have hr := hR.out
        rw [hd] at hr
        have Hr : Hid ((kids.dropLast.drop (j + 1)).all (blockP ns) = kids.dropLast.all (blockP ns)) := hid (by rw [hd2]; exact hr)
        have j2 : ((j : Int) == (q : Int) - 1) = true := by simp; omega
        generalize kids[j] = u at *
        clear hR hr hd hd2
        go_wp2_with (go_at_call 91; ((with_reducible refine (must_yes _).mono ?_)); rintro e w' ⟨rfl, hw⟩; rw [hw]; clear hw w')
        go_roundw
        case rel => exact ⟨j + 1, _, by go_num, by omega, rfl, Hr⟩
        case measure => simp [intOf]; omega
    · obtain rfl : j = q := by omega
      have hr := hR.out
      rw [dropLast_end kids j (by have := Hq.out; omega)] at hr
      have Hr := hid (show kids.dropLast.all (blockP ns) = true from hr.symm)
      have j1 : ¬ (j : Int) < (j : Int) := by omega
      clear hR hr
      go_wp2
      go_end0
      exact ⟨by rw [Hr.out]; rfl, by repeat (first | exact Below.refl _ _ | refine bG ?_ _ | refine bI ?_ _ _ | refine bA ?_ _)⟩
end Go.Proofs.YtbgjanmheagilaaGreatDoor
