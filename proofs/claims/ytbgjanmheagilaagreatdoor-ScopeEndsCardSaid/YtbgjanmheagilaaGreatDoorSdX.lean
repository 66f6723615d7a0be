/- Whether a kind stands in a node: scope.has, walked. Conditions: the nodes are a program. -/
import Derived.Deep.QuietTactic
import Derived.BigQuiet
import Derived.Test.YtbgjanmheagilaaGreatDoorCgX
set_option linter.unusedVariables false
set_option linter.unusedSimpArgs false
namespace Go.Proofs.YtbgjanmheagilaaGreatDoor
open Go Go.RowKit Go.Nodes
set_option linter.unusedVariables false
set_option linter.unusedSimpArgs false
def kidsAt (ns : List Nd) (n : Int) : List Int := match ns[n.toNat]? with
  | some x => x.kids
  | none => []
theorem kidsAt_of {ns : List Nd} {i : Nat} {x : Nd} (h : ns[i]? = some x) : kidsAt ns (i : Int) = x.kids := by
  unfold kidsAt; rw [Int.toNat_natCast, h]
/-- Whether a kind stands in a node, not looking into others. -/
def hasF (ns : List Nd) (shut : List Int) (kind : Int) : Nat → Int → Bool
  | 0, _ => false
  | f + 1, n => decide (kindAt ns n = kind) || (kidsAt ns n).any (fun k => !(shut.contains (kindAt ns k)) && hasF ns shut kind f k)
def hasK (ns : List Nd) (shut : List Int) (kind : Int) (f : Nat) (k : Int) : Bool := !(shut.contains (kindAt ns k)) && hasF ns shut kind f k
theorem hasF_yes {ns : List Nd} {shut : List Int} {kind : Int} {f : Nat} {n : Int} (h : kindAt ns n = kind) : hasF ns shut kind (f + 1) n = true := by
  unfold hasF; rw [decide_eq_true h]; rfl
theorem hasF_no {ns : List Nd} {shut : List Int} {kind : Int} {f : Nat} {n : Int} (h : ¬ kindAt ns n = kind) : hasF ns shut kind (f + 1) n = (kidsAt ns n).any (hasK ns shut kind f) := by
  show (decide (kindAt ns n = kind) || _) = _
  rw [decide_eq_false h, Bool.false_or]; rfl
theorem any_drop {α : Type} (p : α → Bool) (l : List α) (i : Nat) (hi : i < l.length) : (l.drop i).any p = (p l[i] || (l.drop (i + 1)).any p) := by
  rw [List.drop_eq_getElem_cons hi]; rfl
theorem take_any (l : List Int) (j : Nat) (hj : j < l.length) (p : Int → Bool) : (l.take (j + 1)).any p = ((l.take j).any p || p l[j]) := by
  rw [List.take_succ_eq_append_getElem hj, List.any_append]; simp
set_option maxRecDepth 10000 in
set_option maxHeartbeats 4000000 in
theorem has1_any (W0 : World) (p q : Option Addr) (c m d : Nat) (ns : List Nd) (hL0 : ns.length ≤ 5000) (hks0 : ∀ x ∈ ns, x.kids.length ≤ 20000) (ha : NodesAt W0 p ns) (hv : VPre ns ns.length) (shut : List Int) (hm : shut.length = m) (hm2 : m ≤ 10) (hsh : IntsAt W0 q shut) (kind : Int) (BL BK BS BI : Nat)
    (cL : W0.cell? ⟨BL, 0, none⟩ = some (.slice p ns.length c)) (cK : W0.cell? ⟨BK, 0, none⟩ = some (.int .i64 kind)) (cS : W0.cell? ⟨BS, 0, none⟩ = some (.slice q m d))
    (cI : W0.cell? ⟨BI, 0, none⟩ = some (.func (.func 67) #[] #[.pointer (some ⟨BL, 0, none⟩), .pointer (some ⟨BK, 0, none⟩), .pointer (some ⟨BS, 0, none⟩), .pointer (some ⟨BI, 0, none⟩)])) (lL : BL < W0.heap.size) (lK : BK < W0.heap.size) (lS : BS < W0.heap.size) (lI : BI < W0.heap.size) :
    ∀ (f n : Nat), n < f → n < ns.length → ∀ W, Below W0.heap.size W0 W → Calls Tryz.prog 67 #[.int .i64 (n : Int), .pointer (some ⟨BL, 0, none⟩), .pointer (some ⟨BK, 0, none⟩), .pointer (some ⟨BS, 0, none⟩), .pointer (some ⟨BI, 0, none⟩)] W
      fun e w' => e = .returned (.bool (hasF ns shut kind f n)) ∧ Below W.heap.size W w' := by
  intro f
  induction f with
  | zero => intro n hn; omega
  | succ f ih =>
    intro n hn hnl W hW
    obtain ⟨b, o, rfl, hb, hx, hf, c0, c1, c2, c3⟩ := nd_at ha hnl
    have hka := kindAt_of hx
    have hkd := kidsAt_of hx
    have hvn := hv n _ hnl hx
    have hks := hks0 ns[n] (List.getElem_mem hnl)
    have eL := (hW.cell (p := ⟨BL, _, none⟩) lL).trans cL
    have eK := (hW.cell (p := ⟨BK, _, none⟩) lK).trans cK
    have eS := (hW.cell (p := ⟨BS, _, none⟩) lS).trans cS
    have eI := (hW.cell (p := ⟨BI, _, none⟩) lI).trans cI
    have e0 := (hW.cell (p := ⟨b, _, none⟩) hb).trans c0
    have e2 := (hW.cell (p := ⟨b, _, none⟩) hb).trans c2
    have mL : BL < W.heap.size := by have := hW.size; omega
    have mK : BK < W.heap.size := by have := hW.size; omega
    have mS : BS < W.heap.size := by have := hW.size; omega
    have mI : BI < W.heap.size := by have := hW.size; omega
    have mb : b < W.heap.size := by have := hW.size; omega
    have Ha := hid ha
    have HW := hid hW
    have Ih := hid ih
    have Hf := hid hf.2.2.2.2.2
    have Hkid := hid hvn.kids
    have Hsh := hid hsh
    have Hm := hid hm
    obtain ⟨L, hL⟩ : ∃ L, L = ns.length := ⟨_, rfl⟩
    rw [← hL] at eL
    have HL := hid hL
    have hL5 : (L : Int) ≤ 5000 := by omega
    have n0 : (0 : Int) ≤ (n : Int) := by omega
    have n1 : (n : Int) < (L : Int) := by omega
    have hyes := hasF_yes (ns := ns) (shut := shut) (kind := kind) (f := f) (n := (n : Int))
    have hno := hasF_no (ns := ns) (shut := shut) (kind := kind) (f := f) (n := (n : Int))
    rw [hka] at hyes hno
    rw [hkd] at hno
    generalize ns[n] = x at *
    obtain ⟨kx, text, kp, kcap, kids, place⟩ := x
    simp only at hyes hno e0 e2 hks Hf Hkid
    obtain ⟨k9, hk9⟩ : ∃ k9, k9 = kids.length := ⟨_, rfl⟩
    rw [← hk9] at e2 hks
    have Hk9 := hid hk9
    have hk20 : (k9 : Int) ≤ 20000 := by omega
    clear cL cK cS cI c0 c1 c2 c3 ha hW ih hf hvn hsh hm hka hkd hv hks0 hL hx hk9 hL0
    by_cases hk : kx = kind
    · subst hk
      rw [hyes rfl]
      clear hyes hno
      go_enter Tryz.func67, Tryz.ntmps67
      go_wp2
      go_quiet (fail)
      go_wp2
      go_ret
      exact ⟨rfl, by repeat (first | exact Below.refl _ _ | refine bG ?_ _ | refine bA ?_ _ | refine bD ?_ | refine bN ?_ _)⟩
    · rw [hno hk]
      have hkb := ne_beq hk
      have m0 : (m : Int) ≤ 10 := by omega
      clear hyes hno hk
      go_enter Tryz.func67, Tryz.ntmps67
      go_wp2
      go_quiet (fail)
      go_wp2
      go_loopw [25] (fun iv wr => ∃ (i : Nat) (g : Gro), i ≤ k9 ∧ iv = .int .i64 i ∧ wr = grow W g ∧ Hid ((kids.drop i).any (hasK ns shut kind f) = kids.any (hasK ns shut kind f))) (fun iv _ => k9 - (intOf iv).toNat)
      case atStart =>
        obtain ⟨g0, h0⟩ := bout (bN (Below.refl W.heap.size W) nq)
        exact ⟨0, g0, by omega, rfl, h0, hid rfl⟩
      case round =>
        obtain ⟨i, g, hi, rfl, rfl, hR⟩ := hrel
        by_cases hlt : i < k9
        · have hil : i < kids.length := by have := Hk9.out; omega
          rcases Hf.out with ix | ⟨bk, ok, rfl, hbk, hck⟩
          · subst ix; simp at hil
          have ek := (HW.out.cell (p := ⟨bk, _, none⟩) hbk).trans (hck i hil)
          have mk : bk < W.heap.size := by have := HW.out.size; omega
          have hkin := Hkid.out kids[i] (List.getElem_mem hil)
          have hr := hR.out
          rw [any_drop _ _ _ hil] at hr
          obtain ⟨z, hz⟩ : ∃ z : Nat, kids[i] = (z : Int) := ⟨(kids[i]).toNat, by omega⟩
          rw [hz] at ek hkin hr
          have hzl : z < ns.length := by omega
          obtain ⟨b2, o2, h2, hb2, hx2, hf2, d0, _⟩ := nd_at Ha.out hzl
          cases h2
          have hkz := kindAt_of hx2
          rw [← hkz] at d0
          have f0 := (HW.out.cell (p := ⟨b, _, none⟩) hb).trans d0
          have i0 : (0 : Int) ≤ (i : Int) := by omega
          have i1 : (i : Int) < (k9 : Int) := by omega
          have z0 : (0 : Int) ≤ (z : Int) := by omega
          have z1 : (z : Int) < (L : Int) := by have := HL.out; omega
          have Hin : Hid (∀ W', Below W.heap.size W W' → Calls Tryz.prog 67 #[.int .i64 (z : Int), .pointer (some ⟨BL, 0, none⟩), .pointer (some ⟨BK, 0, none⟩), .pointer (some ⟨BS, 0, none⟩), .pointer (some ⟨BI, 0, none⟩)] W'
              fun e w' => e = .returned (.bool (hasF ns shut kind f z)) ∧ Below W'.heap.size W' w') := hid fun W' hW' => Ih.out z (by omega) hzl W' (bB HW.out hW')
          rw [show hasK ns shut kind f (z : Int) = (!(shut.contains (kindAt ns z)) && hasF ns shut kind f z) from rfl] at hr
          obtain ⟨kz, hkz2⟩ : ∃ kz, kz = kindAt ns (z : Int) := ⟨_, rfl⟩
          rw [← hkz2] at f0 hr
          have Hr := hid hr
          clear hr hkz hx2 hf2 d0 hz hck hkz2
          generalize hasF ns shut kind f (z : Int) = hv at *
          go_wp2
          go_loop [31, 9] (fun jv cv => ∃ j : Nat, j ≤ m ∧ jv = .int .i64 j ∧ cv = .bool ((shut.take j).any (fun s => kz == s))) (fun jv _ => m - (intOf jv).toNat)
          case atStart => exact ⟨0, by omega, rfl, by simp⟩
          case round =>
            obtain ⟨j, hj, rfl, rfl⟩ := hrel
            by_cases hjm : j < m
            · have hjl : j < shut.length := by have := Hm.out; omega
              rcases Hsh.out with ix | ⟨bs, os, rfl, hbs, hcs⟩
              · subst ix; simp at hjl
              have es := (HW.out.cell (p := ⟨bs, _, none⟩) hbs).trans (hcs j hjl)
              have ms : bs < W.heap.size := by have := HW.out.size; omega
              have hta := take_any shut j hjl (fun s => kz == s)
              generalize shut[j] = s at *
              have j0 : (0 : Int) ≤ (j : Int) := by omega
              have j1 : (j : Int) < (m : Int) := by omega
              have Hta := hid hta
              clear hta hcs
              generalize (shut.take j).any (fun s => kz == s) = cl at *
              cases cl with
              | true =>
                go_wp2
                go_round
                case rel => exact ⟨j + 1, by omega, by go_num, by rw [Hta.out]; rfl⟩
                case measure => simp [intOf]; omega
              | false =>
                go_wp2
                go_round
                case rel => exact ⟨j + 1, by omega, by go_num, by rw [Hta.out]; rfl⟩
                case measure => simp [intOf]; omega
            · obtain rfl : j = m := by omega
              have hcl : Hid ((shut.take j).any (fun s => kz == s) = shut.contains kz) := hid (by
                rw [List.take_of_length_le (by rw [Hm.out]; exact Nat.le_refl _)]
                simp only [List.contains_eq_any_beq])
              rw [hcl.out]
              clear hcl
              generalize shut.contains kz = cl at *
              cases cl with
              | true =>
                have Hn : Hid ((kids.drop (i + 1)).any (hasK ns shut kind f) = kids.any (hasK ns shut kind f)) := hid (by rw [← Hr.out]; rfl)
                go_wp2
                refine ⟨⟨i + 1, g, by omega, by go_num, rfl, Hn⟩, by simp [intOf]; omega⟩
              | false =>
                cases hv with
                | true =>
                  have Hn : Hid (kids.any (hasK ns shut kind f) = true) := hid (by rw [← Hr.out]; rfl)
                  go_wp2_with (go_at_call 67; ((with_reducible refine (Hin.out _ (by repeat (first | exact Below.refl _ _ | refine bG ?_ _ | refine bA ?_ _ | refine bD ?_ | refine bN ?_ _))).mono ?_)); rintro e w' ⟨rfl, hb⟩; obtain ⟨g2, rfl⟩ := bout hb; clear hb)
                  go_ret
                  exact ⟨by rw [Hn.out]; rfl, by repeat (first | exact Below.refl _ _ | refine bG ?_ _ | refine bA ?_ _ | refine bD ?_ | refine bN ?_ _)⟩
                | false =>
                  have Hn : Hid ((kids.drop (i + 1)).any (hasK ns shut kind f) = kids.any (hasK ns shut kind f)) := hid (by rw [← Hr.out]; rfl)
                  go_wp2_with (go_at_call 67; ((with_reducible refine (Hin.out _ (by repeat (first | exact Below.refl _ _ | refine bG ?_ _ | refine bA ?_ _ | refine bD ?_ | refine bN ?_ _))).mono ?_)); rintro e w' ⟨rfl, hb⟩; obtain ⟨g2, rfl⟩ := bout hb; clear hb)
                  refine ⟨⟨i + 1, _, by omega, by go_num, rfl, Hn⟩, by simp [intOf]; omega⟩
        · obtain rfl : i = k9 := by omega
          have Hn : Hid (kids.any (hasK ns shut kind f) = false) := hid (by rw [← hR.out, Hk9.out, List.drop_length]; rfl)
          go_wp2
          go_ret
          exact ⟨by rw [Hn.out]; rfl, by repeat (first | exact Below.refl _ _ | refine bG ?_ _ | refine bA ?_ _ | refine bD ?_ | refine bN ?_ _)⟩
end Go.Proofs.YtbgjanmheagilaaGreatDoor

/- Whether a kind stands in a node: the reference's, walked; whether there is such a node. Conditions: the nodes are a program. -/
namespace Go.Proofs.YtbgjanmheagilaaGreatDoor
open Go Go.RowKit Go.Nodes
set_option linter.unusedVariables false
set_option linter.unusedSimpArgs false
/-- Nodes that both Checks take. -/
theorem scan_all (ns : List Nd) (v : List Bool) : ∀ (l : List Nd) (n : Nat) (us : List Bool), ns.drop n = l → VPre ns n → scanF ns l n us = (none, v) → VPre ns ns.length
  | [], n, us, hd, hv, _ => by
    have : ns.length ≤ n := by simpa using hd
    intro i x hi hx
    exact hv i x (by omega) hx
  | x :: l, n, us, hd, hv, h => by
    have hn : n < ns.length := by
      rcases Nat.lt_or_ge n ns.length with h | h
      · exact h
      · rw [List.drop_eq_nil_of_le h] at hd; cases hd
    have hd2 := List.drop_eq_getElem_cons hn
    rw [hd] at hd2
    obtain ⟨h1, h2⟩ := List.cons.inj hd2
    cases hk : kidsU n x.kids us with
    | none => unfold scanF at h; simp only [hk] at h; cases h
    | some us2 =>
      cases ho : okB ns x with
      | false => rw [scan_bad hk ho] at h; cases h
      | true =>
        rw [scan_ok hk ho] at h
        refine scan_all ns v l (n + 1) us2 h2.symm (fun i y hi hy => ?_) h
        by_cases hin : i < n
        · exact hv i y hin hy
        · obtain rfl : i = n := by omega
          rw [List.getElem?_eq_getElem hn, ← h1] at hy
          cases hy
          exact vnode_of_ok hk ho
theorem check_ok {ns : List Nd} (h : (checkS ns).2 = 0) : VPre ns ns.length := by
  unfold checkS at h
  split at h
  · exact absurd h (show ¬ ((60 : Int) = 0) by decide)
  · rename_i u hs
    exact scan_all ns u ns 0 _ rfl (fun i x hi => absurd hi (by omega)) hs
def shutL (lp : Bool) : List Int := if lp then [22] else [22, 9]
set_option maxRecDepth 10000 in
set_option maxHeartbeats 4000000 in
theorem holds1_any (W0 : World) (p : Option Addr) (c : Nat) (ns : List Nd) (hL0 : ns.length ≤ 5000) (hks0 : ∀ x ∈ ns, x.kids.length ≤ 20000) (ha : NodesAt W0 p ns) (hv : VPre ns ns.length) (kind : Int) (lp : Bool) :
    ∀ (f n : Nat), n < f → n < ns.length → ∀ W, Below W0.heap.size W0 W → Calls Tryz.prog 39 #[.slice p ns.length c, .int .i64 (n : Int), .int .i64 kind, .bool lp] W
      fun e w' => e = .returned (.bool (hasF ns (shutL lp) kind f n)) ∧ Below W.heap.size W w' := by
  intro f
  induction f with
  | zero => intro n hn; omega
  | succ f ih =>
    intro n hn hnl W hW
    obtain ⟨b, o, rfl, hb, hx, hf, c0, c1, c2, c3⟩ := nd_at ha hnl
    have hka := kindAt_of hx
    have hkd := kidsAt_of hx
    have hvn := hv n _ hnl hx
    have hks := hks0 ns[n] (List.getElem_mem hnl)
    have e0 := (hW.cell (p := ⟨b, _, none⟩) hb).trans c0
    have e2 := (hW.cell (p := ⟨b, _, none⟩) hb).trans c2
    have mb : b < W.heap.size := by have := hW.size; omega
    have Ha := hid ha
    have HW := hid hW
    have Ih := hid ih
    have Hf := hid hf.2.2.2.2.2
    have Hkid := hid hvn.kids
    have hyes := hasF_yes (ns := ns) (shut := shutL lp) (kind := kind) (f := f) (n := (n : Int))
    have hno := hasF_no (ns := ns) (shut := shutL lp) (kind := kind) (f := f) (n := (n : Int))
    obtain ⟨L, hL⟩ : ∃ L, L = ns.length := ⟨_, rfl⟩
    rw [← hL] at ih ⊢
    have HL := hid hL
    have hL5 : (L : Int) ≤ 5000 := by omega
    have n0 : (0 : Int) ≤ (n : Int) := by omega
    have n1 : (n : Int) < (L : Int) := by omega
    rw [hka] at hyes hno
    rw [hkd] at hno
    generalize ns[n] = x at *
    obtain ⟨kx, text, kp, kcap, kids, place⟩ := x
    simp only at hyes hno e0 e2 hks Hf Hkid
    obtain ⟨k9, hk9⟩ : ∃ k9, k9 = kids.length := ⟨_, rfl⟩
    rw [← hk9] at e2 hks
    have Hk9 := hid hk9
    have hk20 : (k9 : Int) ≤ 20000 := by omega
    clear c0 c1 c2 c3 ha hW ih hf hvn hka hkd hv hks0 hL hx hk9 hL0
    by_cases hk : kx = kind
    · subst hk
      rw [hyes rfl]
      clear hyes hno
      go_enter Tryz.func39, Tryz.ntmps39
      go_wp2
      go_ret
      exact ⟨rfl, by repeat (first | exact Below.refl _ _ | refine bG ?_ _ | refine bA ?_ _ | refine bD ?_ | refine bN ?_ _)⟩
    · rw [hno hk]
      have hkb := ne_beq hk
      clear hyes hno hk
      go_enter Tryz.func39, Tryz.ntmps39
      go_wp2
      go_loopw [24] (fun iv wr => ∃ (i : Nat) (g : Gro), i ≤ k9 ∧ iv = .int .i64 i ∧ wr = grow W g ∧ Hid ((kids.drop i).any (hasK ns (shutL lp) kind f) = kids.any (hasK ns (shutL lp) kind f))) (fun iv _ => k9 - (intOf iv).toNat)
      case atStart => exact ⟨0, _, by omega, rfl, (grow_refl _).symm, hid rfl⟩
      case round =>
        obtain ⟨i, g, hi, rfl, rfl, hR⟩ := hrel
        by_cases hlt : i < k9
        · have hil : i < kids.length := by have := Hk9.out; omega
          rcases Hf.out with ix | ⟨bk, ok, rfl, hbk, hck⟩
          · subst ix; simp at hil
          have ek := (HW.out.cell (p := ⟨bk, _, none⟩) hbk).trans (hck i hil)
          have mk : bk < W.heap.size := by have := HW.out.size; omega
          have hkin := Hkid.out kids[i] (List.getElem_mem hil)
          have hr := hR.out
          rw [any_drop _ _ _ hil] at hr
          obtain ⟨z, hz⟩ : ∃ z : Nat, kids[i] = (z : Int) := ⟨(kids[i]).toNat, by omega⟩
          rw [hz] at ek hkin hr
          have hzl : z < ns.length := by omega
          obtain ⟨b2, o2, h2, hb2, hx2, hf2, d0, _⟩ := nd_at Ha.out hzl
          cases h2
          have hkz := kindAt_of hx2
          rw [← hkz] at d0
          have f0 := (HW.out.cell (p := ⟨b, _, none⟩) hb).trans d0
          have i0 : (0 : Int) ≤ (i : Int) := by omega
          have i1 : (i : Int) < (k9 : Int) := by omega
          have z0 : (0 : Int) ≤ (z : Int) := by omega
          have z1 : (z : Int) < (L : Int) := by have := HL.out; omega
          have Hin : Hid (∀ W', Below W.heap.size W W' → Calls Tryz.prog 39 #[.slice (some ⟨b, o, none⟩) L c, .int .i64 (z : Int), .int .i64 kind, .bool lp] W'
              fun e w' => e = .returned (.bool (hasF ns (shutL lp) kind f z)) ∧ Below W'.heap.size W' w') := hid fun W' hW' => by
            have h := Ih.out z (by omega) hzl W' (bB HW.out hW')
            rw [← HL.out] at h
            exact h
          rw [show hasK ns (shutL lp) kind f (z : Int) = (!((shutL lp).contains (kindAt ns z)) && hasF ns (shutL lp) kind f z) from rfl] at hr
          obtain ⟨kz, hkz2⟩ : ∃ kz, kz = kindAt ns (z : Int) := ⟨_, rfl⟩
          rw [← hkz2] at f0 hr
          clear hkz hx2 hf2 d0 hz hck hkz2
          generalize hasF ns (shutL lp) kind f (z : Int) = hv at *
          have next : ∀ r : Bool, (!((shutL lp).contains kz) && hv) = r → Hid ((r || (kids.drop (i + 1)).any (hasK ns (shutL lp) kind f)) = kids.any (hasK ns (shutL lp) kind f)) := fun r h => hid (by rw [← h]; exact hr)
          clear hr
          by_cases h22 : kz = 22
          · have Hn := next false (by subst h22; cases lp <;> rfl)
            subst h22
            clear next
            go_wp2
            refine ⟨⟨i + 1, g, by omega, by go_num, rfl, Hn⟩, by simp [intOf]; omega⟩
          have b22 : (kz != 22) = true := by simp [bne, ne_beq h22]
          have c22 : (kz == 22) = false := ne_beq h22
          cases lp with
          | true =>
            have hc : (!((shutL true).contains kz) && hv) = hv := by simp [shutL, h22]
            cases hv with
            | true =>
              have Hn := next true hc
              clear next hc
              go_wp2_with (go_at_call 39; ((with_reducible refine (Hin.out _ (by repeat (first | exact Below.refl _ _ | refine bG ?_ _ | refine bA ?_ _ | refine bD ?_ | refine bN ?_ _))).mono ?_)); rintro e w' ⟨rfl, hb⟩; obtain ⟨g2, rfl⟩ := bout hb; clear hb)
              go_ret
              exact ⟨by rw [← Hn.out]; rfl, by repeat (first | exact Below.refl _ _ | refine bG ?_ _ | refine bA ?_ _ | refine bD ?_ | refine bN ?_ _)⟩
            | false =>
              have Hn := next false hc
              clear next hc
              go_wp2_with (go_at_call 39; ((with_reducible refine (Hin.out _ (by repeat (first | exact Below.refl _ _ | refine bG ?_ _ | refine bA ?_ _ | refine bD ?_ | refine bN ?_ _))).mono ?_)); rintro e w' ⟨rfl, hb⟩; obtain ⟨g2, rfl⟩ := bout hb; clear hb)
              refine ⟨⟨i + 1, _, by omega, by go_num, rfl, Hn⟩, by simp [intOf]; omega⟩
          | false =>
            by_cases h9 : kz = 9
            · have Hn := next false (by subst h9; rfl)
              subst h9
              clear next
              go_wp2
              refine ⟨⟨i + 1, g, by omega, by go_num, rfl, Hn⟩, by simp [intOf]; omega⟩
            have b9 : (kz != 9) = true := by simp [bne, ne_beq h9]
            have hc : (!((shutL false).contains kz) && hv) = hv := by simp [shutL, h22, h9]
            cases hv with
            | true =>
              have Hn := next true hc
              clear next hc
              go_wp2_with (go_at_call 39; ((with_reducible refine (Hin.out _ (by repeat (first | exact Below.refl _ _ | refine bG ?_ _ | refine bA ?_ _ | refine bD ?_ | refine bN ?_ _))).mono ?_)); rintro e w' ⟨rfl, hb⟩; obtain ⟨g2, rfl⟩ := bout hb; clear hb)
              go_ret
              exact ⟨by rw [← Hn.out]; rfl, by repeat (first | exact Below.refl _ _ | refine bG ?_ _ | refine bA ?_ _ | refine bD ?_ | refine bN ?_ _)⟩
            | false =>
              have Hn := next false hc
              clear next hc
              go_wp2_with (go_at_call 39; ((with_reducible refine (Hin.out _ (by repeat (first | exact Below.refl _ _ | refine bG ?_ _ | refine bA ?_ _ | refine bD ?_ | refine bN ?_ _))).mono ?_)); rintro e w' ⟨rfl, hb⟩; obtain ⟨g2, rfl⟩ := bout hb; clear hb)
              refine ⟨⟨i + 1, _, by omega, by go_num, rfl, Hn⟩, by simp [intOf]; omega⟩
        · obtain rfl : i = k9 := by omega
          have Hn : Hid (kids.any (hasK ns (shutL lp) kind f) = false) := hid (by rw [← hR.out, Hk9.out, List.drop_length]; rfl)
          go_wp2
          go_ret
          exact ⟨by rw [Hn.out]; rfl, by repeat (first | exact Below.refl _ _ | refine bG ?_ _ | refine bA ?_ _ | refine bD ?_ | refine bN ?_ _)⟩
@[go_sem] theorem run_store_func {P : Program} (w : World) (n i : Nat) (fn : Fn) (x y : Array Value) (v : Value) (hc : w.cell? ⟨n, i, none⟩ = some v) (hf : w.frozen? ⟨n, i, none⟩ = false) : (store ⟨n, i, none⟩ (.func fn x y)).run P w = .ok () (w.setCell ⟨n, i, none⟩ (.func fn x y)) := by
  rw [run_store P w _ _ _ rfl, hc]
  simp [hf]
set_option maxRecDepth 10000 in
set_option maxHeartbeats 4000000 in
theorem has_any (w : World) (p q : Option Addr) (c m d : Nat) (ns : List Nd) (hs : Small ns) (ha : NodesAt w p ns) (hv : VPre ns ns.length) (shut : List Int) (hm : shut.length = m) (hm2 : m ≤ 10) (hsh : IntsAt w q shut) (kind : Int) (n : Nat) (hn : n < ns.length) :
    Calls Tryz.prog 37 #[.slice p ns.length c, .int .i64 (n : Int), .int .i64 kind, .slice q m d] w fun e w' => e = .returned (.bool (hasF ns shut kind ns.length n)) ∧ Below w.heap.size w w' := by
  obtain ⟨W0, hW0⟩ : ∃ W0, W0 = (((w.alloc (.cells #[.slice p ns.length c] 22)).alloc (.cells #[.int .i64 kind] 3)).alloc (.cells #[.slice q m d] 28)).alloc (.cells #[.func (.func 67) #[] #[.pointer (some ⟨w.heap.size, 0, none⟩), .pointer (some ⟨w.heap.size + 1, 0, none⟩), .pointer (some ⟨w.heap.size + 2, 0, none⟩), .pointer (some ⟨w.heap.size + 3, 0, none⟩)]] 68) := ⟨_, rfl⟩
  have hb0 : Below w.heap.size w W0 := by rw [hW0]; exact bA (bA (bA (bA (Below.refl _ _) _) _) _) _
  have hsz : W0.heap.size = w.heap.size + 4 := by rw [hW0]; simp
  have hin := has1_any W0 p q c m d ns hs.1 (fun x hx => (hs.2 x hx).1) (NodesAt.later ha hb0) hv shut hm hm2 (IntsAt.later hsh hb0) kind w.heap.size (w.heap.size + 1) (w.heap.size + 2) (w.heap.size + 3)
    (by rw [hW0]; simp [go_sem]) (by rw [hW0]; simp [go_sem]) (by rw [hW0]; simp [go_sem]) (by rw [hW0]; simp [go_sem]) (by omega) (by omega) (by omega) (by omega) ns.length n hn hn W0 (Below.refl _ _)
  rw [hW0] at hin
  have Hin := hid hin
  have hmf : ∀ (fn : Fn) (first cap : Array Value) (w : World), (Instr.makeFunc fn first cap).run Tryz.prog w = .ok (.func fn first cap) w := fun _ _ _ _ => rfl
  clear hin hb0 hsz hW0 W0 hs ha hv hsh hm hn
  generalize hasF ns shut kind ns.length n = r at *
  generalize ns.length = L at *
  go_enter Tryz.func37, Tryz.ntmps37
  go_wp2_with (go_at_call 67; ((with_reducible refine Hin.out.mono ?_)); rintro e w' ⟨rfl, hb⟩; obtain ⟨g2, rfl⟩ := bout hb; clear hb)
  go_ret
  exact ⟨rfl, by repeat (first | exact Below.refl _ _ | refine bG ?_ _ | refine bA ?_ _ | refine bD ?_ | refine bN ?_ _)⟩
/-- Whether there is such a node of a tree. -/
def goodS (ns : List Nd) (n : Int) : Bool := decide ((checkS ns).2 = 0) && (decide (0 ≤ n) && decide (n < (ns.length : Int)))
theorem goodS_in {ns : List Nd} {n : Int} (h : goodS ns n = true) : VPre ns ns.length ∧ 0 ≤ n ∧ n < (ns.length : Int) := by
  unfold goodS at h
  simp only [Bool.and_eq_true, decide_eq_true_eq] at h
  exact ⟨check_ok h.1, h.2.1, h.2.2⟩
end Go.Proofs.YtbgjanmheagilaaGreatDoor

/- scope.Returns and Breaks, and the reference's, walked. Conditions: few nodes. -/
namespace Go.Proofs.YtbgjanmheagilaaGreatDoor
open Go Go.RowKit Go.Nodes
set_option linter.unusedVariables false
set_option linter.unusedSimpArgs false
set_option maxRecDepth 10000 in
set_option maxHeartbeats 2000000 in
theorem good_any2 (w : World) (p : Option Addr) (c : Nat) (ns : List Nd) (hs : Small ns) (hc : Capped ns) (ha : NodesAt w p ns) (hl0 : Lib0 w) (n : Int) :
    Calls Tryz.prog 36 #[.slice p ns.length c, .int .i64 n] w fun e w' => e = .returned (.bool (goodS ns n)) ∧ Below w.heap.size w w' := by
  have hch : ∀ W, Below w.heap.size w W → Calls Tryz.prog 27 #[.slice p ns.length c] W fun e w' => e = .returned (.tuple #[.int .i64 (checkS ns).1, .int .i64 (checkS ns).2]) ∧ Below W.heap.size W w' := fun W hW => check_any W p c ns hs hc (NodesAt.later ha hW) (hl0.later hW)
  have Hch := hid hch
  unfold goodS
  clear hch hs hc ha hl0
  generalize (checkS ns).1 = a at *
  generalize (checkS ns).2 = b at *
  generalize ns.length = L at *
  by_cases hb : b = 0
  · subst hb
    by_cases h0 : 0 ≤ n
    · by_cases h1 : n < (L : Int)
      · rw [decide_eq_true h0, decide_eq_true h1, decide_eq_true (show (0 : Int) = 0 from rfl)]
        go_enter Tryz.func36, Tryz.ntmps36
        go_wp2_with (go_at_call 27; ((with_reducible refine (Hch.out _ (by repeat (first | exact Below.refl _ _ | refine bG ?_ _ | refine bA ?_ _ | refine bD ?_ | refine bN ?_ _))).mono ?_)); rintro e w' ⟨rfl, hb⟩; obtain ⟨g, rfl⟩ := bout hb; clear hb)
        go_ret
        exact ⟨rfl, by repeat (first | exact Below.refl _ _ | refine bG ?_ _ | refine bA ?_ _ | refine bD ?_ | refine bN ?_ _)⟩
      · have hd := hid (decide_eq_false h1)
        rw [decide_eq_true h0, decide_eq_false h1, Bool.and_false, Bool.and_false]
        go_enter Tryz.func36, Tryz.ntmps36
        go_wp2_with (go_at_call 27; ((with_reducible refine (Hch.out _ (by repeat (first | exact Below.refl _ _ | refine bG ?_ _ | refine bA ?_ _ | refine bD ?_ | refine bN ?_ _))).mono ?_)); rintro e w' ⟨rfl, hb⟩; obtain ⟨g, rfl⟩ := bout hb; clear hb)
        go_ret
        exact ⟨by show Ending.returned (.bool (decide (n < (L : Int)))) = _; rw [hd.out], by repeat (first | exact Below.refl _ _ | refine bG ?_ _ | refine bA ?_ _ | refine bD ?_ | refine bN ?_ _)⟩
    · rw [decide_eq_false h0, Bool.false_and, Bool.and_false]
      go_enter Tryz.func36, Tryz.ntmps36
      go_wp2_with (go_at_call 27; ((with_reducible refine (Hch.out _ (by repeat (first | exact Below.refl _ _ | refine bG ?_ _ | refine bA ?_ _ | refine bD ?_ | refine bN ?_ _))).mono ?_)); rintro e w' ⟨rfl, hb⟩; obtain ⟨g, rfl⟩ := bout hb; clear hb)
      go_ret
      exact ⟨rfl, by repeat (first | exact Below.refl _ _ | refine bG ?_ _ | refine bA ?_ _ | refine bD ?_ | refine bN ?_ _)⟩
  · rw [decide_eq_false hb, Bool.false_and]
    have hb2 := ne_beq hb
    clear hb
    go_enter Tryz.func36, Tryz.ntmps36
    go_wp2_with (go_at_call 27; ((with_reducible refine (Hch.out _ (by repeat (first | exact Below.refl _ _ | refine bG ?_ _ | refine bA ?_ _ | refine bD ?_ | refine bN ?_ _))).mono ?_)); rintro e w' ⟨rfl, hb⟩; obtain ⟨g, rfl⟩ := bout hb; clear hb)
    go_ret
    exact ⟨rfl, by repeat (first | exact Below.refl _ _ | refine bG ?_ _ | refine bA ?_ _ | refine bD ?_ | refine bN ?_ _)⟩
set_option maxRecDepth 10000 in
set_option maxHeartbeats 2000000 in
theorem rgood_any (w : World) (p : Option Addr) (c : Nat) (ns : List Nd) (hs : Small ns) (hc : Capped ns) (ha : NodesAt w p ns) (hl0 : Lib0 w) (n : Int) :
    Calls Tryz.prog 38 #[.slice p ns.length c, .int .i64 n] w fun e w' => e = .returned (.bool (goodS ns n)) ∧ Below w.heap.size w w' := by
  have hch : ∀ W, Below w.heap.size w W → Calls Tryz.prog 24 #[.slice p ns.length c] W fun e w' => e = .returned (.tuple #[.int .i64 (checkS ns).1, .int .i64 (checkS ns).2]) ∧ Below W.heap.size W w' := fun W hW => rcheck_any W p c ns hs hc (NodesAt.later ha hW) (hl0.later hW)
  have Hch := hid hch
  unfold goodS
  clear hch hs hc ha hl0
  generalize (checkS ns).1 = a at *
  generalize (checkS ns).2 = b at *
  generalize ns.length = L at *
  by_cases hb : b = 0
  · subst hb
    by_cases h0 : 0 ≤ n
    · by_cases h1 : n < (L : Int)
      · rw [decide_eq_true h0, decide_eq_true h1, decide_eq_true (show (0 : Int) = 0 from rfl)]
        go_enter Tryz.func38, Tryz.ntmps38
        go_wp2_with (go_at_call 24; ((with_reducible refine (Hch.out _ (by repeat (first | exact Below.refl _ _ | refine bG ?_ _ | refine bA ?_ _ | refine bD ?_ | refine bN ?_ _))).mono ?_)); rintro e w' ⟨rfl, hb⟩; obtain ⟨g, rfl⟩ := bout hb; clear hb)
        go_ret
        exact ⟨rfl, by repeat (first | exact Below.refl _ _ | refine bG ?_ _ | refine bA ?_ _ | refine bD ?_ | refine bN ?_ _)⟩
      · have hd := hid (decide_eq_false h1)
        rw [decide_eq_true h0, decide_eq_false h1, Bool.and_false, Bool.and_false]
        go_enter Tryz.func38, Tryz.ntmps38
        go_wp2_with (go_at_call 24; ((with_reducible refine (Hch.out _ (by repeat (first | exact Below.refl _ _ | refine bG ?_ _ | refine bA ?_ _ | refine bD ?_ | refine bN ?_ _))).mono ?_)); rintro e w' ⟨rfl, hb⟩; obtain ⟨g, rfl⟩ := bout hb; clear hb)
        go_ret
        exact ⟨by show Ending.returned (.bool (decide (n < (L : Int)))) = _; rw [hd.out], by repeat (first | exact Below.refl _ _ | refine bG ?_ _ | refine bA ?_ _ | refine bD ?_ | refine bN ?_ _)⟩
    · rw [decide_eq_false h0, Bool.false_and, Bool.and_false]
      go_enter Tryz.func38, Tryz.ntmps38
      go_wp2_with (go_at_call 24; ((with_reducible refine (Hch.out _ (by repeat (first | exact Below.refl _ _ | refine bG ?_ _ | refine bA ?_ _ | refine bD ?_ | refine bN ?_ _))).mono ?_)); rintro e w' ⟨rfl, hb⟩; obtain ⟨g, rfl⟩ := bout hb; clear hb)
      go_ret
      exact ⟨rfl, by repeat (first | exact Below.refl _ _ | refine bG ?_ _ | refine bA ?_ _ | refine bD ?_ | refine bN ?_ _)⟩
  · rw [decide_eq_false hb, Bool.false_and]
    have hb2 := ne_beq hb
    clear hb
    go_enter Tryz.func38, Tryz.ntmps38
    go_wp2_with (go_at_call 24; ((with_reducible refine (Hch.out _ (by repeat (first | exact Below.refl _ _ | refine bG ?_ _ | refine bA ?_ _ | refine bD ?_ | refine bN ?_ _))).mono ?_)); rintro e w' ⟨rfl, hb⟩; obtain ⟨g, rfl⟩ := bout hb; clear hb)
    go_ret
    exact ⟨rfl, by repeat (first | exact Below.refl _ _ | refine bG ?_ _ | refine bA ?_ _ | refine bD ?_ | refine bN ?_ _)⟩
def holdS (ns : List Nd) (shut : List Int) (kind : Int) (n : Int) : Bool := goodS ns n && hasF ns shut kind ns.length n
set_option maxRecDepth 10000 in
set_option maxHeartbeats 2000000 in
theorem returns_any (w : World) (p : Option Addr) (c : Nat) (ns : List Nd) (hs : Small ns) (hc : Capped ns) (ha : NodesAt w p ns) (hl0 : Lib0 w) (n : Int) :
    Calls Tryz.prog 18 #[.slice p ns.length c, .int .i64 n] w fun e w' => e = .returned (.bool (holdS ns [22] 10 n)) ∧ Below w.heap.size w w' := by
  have Hg : Hid (∀ W, Below w.heap.size w W → Calls Tryz.prog 36 #[.slice p ns.length c, .int .i64 n] W fun e w' => e = .returned (.bool (goodS ns n)) ∧ Below W.heap.size W w') := hid fun W hW => good_any2 W p c ns hs hc (NodesAt.later ha hW) (hl0.later hW) n
  unfold holdS
  cases hgd : goodS ns n with
  | false =>
    rw [hgd] at Hg
    clear hs hc ha hl0 hgd
    generalize ns.length = L at *
    rw [Bool.false_and]
    go_enter Tryz.func18, Tryz.ntmps18
    go_wp2_with (go_at_call 36; ((with_reducible refine (Hg.out _ (by repeat (first | exact Below.refl _ _ | refine bG ?_ _ | refine bA ?_ _ | refine bD ?_ | refine bN ?_ _))).mono ?_)); rintro e w' ⟨rfl, hb⟩; obtain ⟨g, rfl⟩ := bout hb; clear hb)
    go_ret
    exact ⟨rfl, by repeat (first | exact Below.refl _ _ | refine bG ?_ _ | refine bA ?_ _ | refine bD ?_ | refine bN ?_ _)⟩
  | true =>
    obtain ⟨hv, n0, n1⟩ := goodS_in hgd
    rw [hgd] at Hg
    obtain ⟨z, rfl⟩ : ∃ z : Nat, n = (z : Int) := ⟨n.toNat, by omega⟩
    have Hh : Hid (∀ (W : World) (q : Nat), Below w.heap.size w W → IntsAt W (some ⟨q, 0, none⟩) [22] → Calls Tryz.prog 37 #[.slice p ns.length c, .int .i64 (z : Int), .int .i64 10, .slice (some ⟨q, 0, none⟩) 1 1] W fun e w' => e = .returned (.bool (hasF ns [22] 10 ns.length z)) ∧ Below W.heap.size W w') := hid fun W q hW hq =>
      has_any W p (some ⟨q, 0, none⟩) c 1 1 ns hs (NodesAt.later ha hW) hv [22] rfl (by decide) hq 10 z (by omega)
    clear hs hc ha hl0 hgd hv n0 n1
    rw [Bool.true_and]
    generalize hasF ns [22] 10 ns.length (z : Int) = r at *
    generalize ns.length = L at *
    go_enter Tryz.func18, Tryz.ntmps18
    go_wp2_with (first
      | (go_at_call 36; ((with_reducible refine (Hg.out _ (by repeat (first | exact Below.refl _ _ | refine bG ?_ _ | refine bA ?_ _ | refine bD ?_ | refine bN ?_ _))).mono ?_)); rintro e w' ⟨rfl, hb⟩; obtain ⟨g, rfl⟩ := bout hb; clear hb)
      | (go_at_call 37; ((with_reducible refine (Hh.out _ _ (by repeat (first | exact Below.refl _ _ | refine bG ?_ _ | refine bA ?_ _ | refine bD ?_ | refine bN ?_ _)) ?_).mono ?_)); (refine .inr ⟨_, 0, rfl, by simp, fun i hi => ?_⟩; (rcases i with _ | _ | i) <;> first | (simp [go_sem]; done) | (simp at hi; done) | (exact absurd hi (by simp))); rintro e w' ⟨rfl, hb⟩; obtain ⟨g2, rfl⟩ := bout hb; clear hb))
    go_ret
    exact ⟨rfl, by repeat (first | exact Below.refl _ _ | refine bG ?_ _ | refine bA ?_ _ | refine bD ?_ | refine bN ?_ _)⟩
set_option maxRecDepth 10000 in
set_option maxHeartbeats 2000000 in
theorem breaks_any (w : World) (p : Option Addr) (c : Nat) (ns : List Nd) (hs : Small ns) (hc : Capped ns) (ha : NodesAt w p ns) (hl0 : Lib0 w) (n : Int) :
    Calls Tryz.prog 20 #[.slice p ns.length c, .int .i64 n] w fun e w' => e = .returned (.bool (holdS ns [22, 9] 11 n)) ∧ Below w.heap.size w w' := by
  have Hg : Hid (∀ W, Below w.heap.size w W → Calls Tryz.prog 36 #[.slice p ns.length c, .int .i64 n] W fun e w' => e = .returned (.bool (goodS ns n)) ∧ Below W.heap.size W w') := hid fun W hW => good_any2 W p c ns hs hc (NodesAt.later ha hW) (hl0.later hW) n
  unfold holdS
  cases hgd : goodS ns n with
  | false =>
    rw [hgd] at Hg
    clear hs hc ha hl0 hgd
    generalize ns.length = L at *
    rw [Bool.false_and]
    go_enter Tryz.func20, Tryz.ntmps20
    go_wp2_with (go_at_call 36; ((with_reducible refine (Hg.out _ (by repeat (first | exact Below.refl _ _ | refine bG ?_ _ | refine bA ?_ _ | refine bD ?_ | refine bN ?_ _))).mono ?_)); rintro e w' ⟨rfl, hb⟩; obtain ⟨g, rfl⟩ := bout hb; clear hb)
    go_ret
    exact ⟨rfl, by repeat (first | exact Below.refl _ _ | refine bG ?_ _ | refine bA ?_ _ | refine bD ?_ | refine bN ?_ _)⟩
  | true =>
    obtain ⟨hv, n0, n1⟩ := goodS_in hgd
    rw [hgd] at Hg
    obtain ⟨z, rfl⟩ : ∃ z : Nat, n = (z : Int) := ⟨n.toNat, by omega⟩
    have Hh : Hid (∀ (W : World) (q : Nat), Below w.heap.size w W → IntsAt W (some ⟨q, 0, none⟩) [22, 9] → Calls Tryz.prog 37 #[.slice p ns.length c, .int .i64 (z : Int), .int .i64 11, .slice (some ⟨q, 0, none⟩) 2 2] W fun e w' => e = .returned (.bool (hasF ns [22, 9] 11 ns.length z)) ∧ Below W.heap.size W w') := hid fun W q hW hq =>
      has_any W p (some ⟨q, 0, none⟩) c 2 2 ns hs (NodesAt.later ha hW) hv [22, 9] rfl (by decide) hq 11 z (by omega)
    clear hs hc ha hl0 hgd hv n0 n1
    rw [Bool.true_and]
    generalize hasF ns [22, 9] 11 ns.length (z : Int) = r at *
    generalize ns.length = L at *
    go_enter Tryz.func20, Tryz.ntmps20
    go_wp2_with (first
      | (go_at_call 36; ((with_reducible refine (Hg.out _ (by repeat (first | exact Below.refl _ _ | refine bG ?_ _ | refine bA ?_ _ | refine bD ?_ | refine bN ?_ _))).mono ?_)); rintro e w' ⟨rfl, hb⟩; obtain ⟨g, rfl⟩ := bout hb; clear hb)
      | (go_at_call 37; ((with_reducible refine (Hh.out _ _ (by repeat (first | exact Below.refl _ _ | refine bG ?_ _ | refine bA ?_ _ | refine bD ?_ | refine bN ?_ _)) ?_).mono ?_)); (refine .inr ⟨_, 0, rfl, by simp, fun i hi => ?_⟩; (rcases i with _ | _ | i) <;> first | (simp [go_sem]; done) | (simp at hi; done) | (exact absurd hi (by simp))); rintro e w' ⟨rfl, hb⟩; obtain ⟨g2, rfl⟩ := bout hb; clear hb))
    go_ret
    exact ⟨rfl, by repeat (first | exact Below.refl _ _ | refine bG ?_ _ | refine bA ?_ _ | refine bD ?_ | refine bN ?_ _)⟩
set_option maxRecDepth 10000 in
set_option maxHeartbeats 2000000 in
theorem rreturns_any (w : World) (p : Option Addr) (c : Nat) (ns : List Nd) (hs : Small ns) (hc : Capped ns) (ha : NodesAt w p ns) (hl0 : Lib0 w) (n : Int) :
    Calls Tryz.prog 19 #[.slice p ns.length c, .int .i64 n] w fun e w' => e = .returned (.bool (holdS ns [22] 10 n)) ∧ Below w.heap.size w w' := by
  have Hg : Hid (∀ W, Below w.heap.size w W → Calls Tryz.prog 38 #[.slice p ns.length c, .int .i64 n] W fun e w' => e = .returned (.bool (goodS ns n)) ∧ Below W.heap.size W w') := hid fun W hW => rgood_any W p c ns hs hc (NodesAt.later ha hW) (hl0.later hW) n
  unfold holdS
  cases hgd : goodS ns n with
  | false =>
    rw [hgd] at Hg
    clear hs hc ha hl0 hgd
    generalize ns.length = L at *
    rw [Bool.false_and]
    go_enter Tryz.func19, Tryz.ntmps19
    go_wp2_with (go_at_call 38; ((with_reducible refine (Hg.out _ (by repeat (first | exact Below.refl _ _ | refine bG ?_ _ | refine bA ?_ _ | refine bD ?_ | refine bN ?_ _))).mono ?_)); rintro e w' ⟨rfl, hb⟩; obtain ⟨g, rfl⟩ := bout hb; clear hb)
    go_ret
    exact ⟨rfl, by repeat (first | exact Below.refl _ _ | refine bG ?_ _ | refine bA ?_ _ | refine bD ?_ | refine bN ?_ _)⟩
  | true =>
    obtain ⟨hv, n0, n1⟩ := goodS_in hgd
    rw [hgd] at Hg
    obtain ⟨z, rfl⟩ : ∃ z : Nat, n = (z : Int) := ⟨n.toNat, by omega⟩
    have Hh : Hid (∀ W, Below w.heap.size w W → Calls Tryz.prog 39 #[.slice p ns.length c, .int .i64 (z : Int), .int .i64 10, .bool true] W fun e w' => e = .returned (.bool (hasF ns [22] 10 ns.length z)) ∧ Below W.heap.size W w') := hid fun W hW =>
      holds1_any w p c ns hs.1 (fun x hx => (hs.2 x hx).1) ha hv 10 true ns.length z (by omega) (by omega) W hW
    clear hs hc ha hl0 hgd hv n0 n1
    rw [Bool.true_and]
    generalize hasF ns [22] 10 ns.length (z : Int) = r at *
    generalize ns.length = L at *
    go_enter Tryz.func19, Tryz.ntmps19
    go_wp2_with (first
      | (go_at_call 38; ((with_reducible refine (Hg.out _ (by repeat (first | exact Below.refl _ _ | refine bG ?_ _ | refine bA ?_ _ | refine bD ?_ | refine bN ?_ _))).mono ?_)); rintro e w' ⟨rfl, hb⟩; obtain ⟨g, rfl⟩ := bout hb; clear hb)
      | (go_at_call 39; ((with_reducible refine (Hh.out _ (by repeat (first | exact Below.refl _ _ | refine bG ?_ _ | refine bA ?_ _ | refine bD ?_ | refine bN ?_ _))).mono ?_)); rintro e w' ⟨rfl, hb⟩; obtain ⟨g2, rfl⟩ := bout hb; clear hb))
    go_ret
    exact ⟨rfl, by repeat (first | exact Below.refl _ _ | refine bG ?_ _ | refine bA ?_ _ | refine bD ?_ | refine bN ?_ _)⟩
set_option maxRecDepth 10000 in
set_option maxHeartbeats 2000000 in
theorem rbreaks_any (w : World) (p : Option Addr) (c : Nat) (ns : List Nd) (hs : Small ns) (hc : Capped ns) (ha : NodesAt w p ns) (hl0 : Lib0 w) (n : Int) :
    Calls Tryz.prog 21 #[.slice p ns.length c, .int .i64 n] w fun e w' => e = .returned (.bool (holdS ns [22, 9] 11 n)) ∧ Below w.heap.size w w' := by
  have Hg : Hid (∀ W, Below w.heap.size w W → Calls Tryz.prog 38 #[.slice p ns.length c, .int .i64 n] W fun e w' => e = .returned (.bool (goodS ns n)) ∧ Below W.heap.size W w') := hid fun W hW => rgood_any W p c ns hs hc (NodesAt.later ha hW) (hl0.later hW) n
  unfold holdS
  cases hgd : goodS ns n with
  | false =>
    rw [hgd] at Hg
    clear hs hc ha hl0 hgd
    generalize ns.length = L at *
    rw [Bool.false_and]
    go_enter Tryz.func21, Tryz.ntmps21
    go_wp2_with (go_at_call 38; ((with_reducible refine (Hg.out _ (by repeat (first | exact Below.refl _ _ | refine bG ?_ _ | refine bA ?_ _ | refine bD ?_ | refine bN ?_ _))).mono ?_)); rintro e w' ⟨rfl, hb⟩; obtain ⟨g, rfl⟩ := bout hb; clear hb)
    go_ret
    exact ⟨rfl, by repeat (first | exact Below.refl _ _ | refine bG ?_ _ | refine bA ?_ _ | refine bD ?_ | refine bN ?_ _)⟩
  | true =>
    obtain ⟨hv, n0, n1⟩ := goodS_in hgd
    rw [hgd] at Hg
    obtain ⟨z, rfl⟩ : ∃ z : Nat, n = (z : Int) := ⟨n.toNat, by omega⟩
    have Hh : Hid (∀ W, Below w.heap.size w W → Calls Tryz.prog 39 #[.slice p ns.length c, .int .i64 (z : Int), .int .i64 11, .bool false] W fun e w' => e = .returned (.bool (hasF ns [22, 9] 11 ns.length z)) ∧ Below W.heap.size W w') := hid fun W hW =>
      holds1_any w p c ns hs.1 (fun x hx => (hs.2 x hx).1) ha hv 11 false ns.length z (by omega) (by omega) W hW
    clear hs hc ha hl0 hgd hv n0 n1
    rw [Bool.true_and]
    generalize hasF ns [22, 9] 11 ns.length (z : Int) = r at *
    generalize ns.length = L at *
    go_enter Tryz.func21, Tryz.ntmps21
    go_wp2_with (first
      | (go_at_call 38; ((with_reducible refine (Hg.out _ (by repeat (first | exact Below.refl _ _ | refine bG ?_ _ | refine bA ?_ _ | refine bD ?_ | refine bN ?_ _))).mono ?_)); rintro e w' ⟨rfl, hb⟩; obtain ⟨g, rfl⟩ := bout hb; clear hb)
      | (go_at_call 39; ((with_reducible refine (Hh.out _ (by repeat (first | exact Below.refl _ _ | refine bG ?_ _ | refine bA ?_ _ | refine bD ?_ | refine bN ?_ _))).mono ?_)); rintro e w' ⟨rfl, hb⟩; obtain ⟨g2, rfl⟩ := bout hb; clear hb))
    go_ret
    exact ⟨rfl, by repeat (first | exact Below.refl _ _ | refine bG ?_ _ | refine bA ?_ _ | refine bD ?_ | refine bN ?_ _)⟩
end Go.Proofs.YtbgjanmheagilaaGreatDoor

/- Whether a block surely ends in an answer: the reference's, walked. Conditions: the nodes are a program. -/
namespace Go.Proofs.YtbgjanmheagilaaGreatDoor
open Go Go.RowKit Go.Nodes
set_option linter.unusedVariables false
set_option linter.unusedSimpArgs false
/-- Whether a block surely ends in an answer. -/
def endsF (ns : List Nd) : Nat → Int → Bool
  | 0, _ => false
  | f + 1, n => if kindAt ns n = 3 then (match (kidsAt ns n).getLast? with
      | none => false
      | some k => decide (kindAt ns k = 10) || (decide (kindAt ns k = 8) && (endsF ns f ((kidsAt ns k).getD 1 0) && endsF ns f ((kidsAt ns k).getD 2 0)))) else false
theorem endsF_other {ns : List Nd} {f : Nat} {n : Int} (h : ¬ kindAt ns n = 3) : endsF ns (f + 1) n = false := by
  unfold endsF; rw [if_neg h]
theorem endsF_none {ns : List Nd} {f : Nat} {n : Int} (h : kidsAt ns n = []) : endsF ns (f + 1) n = false := by
  unfold endsF; rw [h]; simp
theorem endsF_last {ns : List Nd} {f : Nat} {n k : Int} (h : kindAt ns n = 3) (hk : (kidsAt ns n).getLast? = some k) : endsF ns (f + 1) n = (decide (kindAt ns k = 10) || (decide (kindAt ns k = 8) && (endsF ns f ((kidsAt ns k).getD 1 0) && endsF ns f ((kidsAt ns k).getD 2 0)))) := by
  conv => lhs; unfold endsF
  rw [if_pos h, hk]
theorem fits_if {ks : List Nat} (h : fitsF (formOf 8) ks = true) : ks.length = 3 := by
  rw [show formOf 8 = [101, 98, 66] by decide] at h
  unfold fitsF at h
  rw [if_neg (by decide)] at h
  rw [show ([101, 98, 66] : List UInt8).length - 2 * ([101, 98, 66] : List UInt8).count 42 = 3 by decide, show ([101, 98, 66] : List UInt8).count 42 = 0 by decide] at h
  split at h
  · cases h
  · split at h
    · cases h
    · rename_i h1 h2
      simp at h1 h2
      omega
set_option maxRecDepth 100000 in
set_option maxHeartbeats 4000000 in
theorem rends1_any (W0 : World) (p : Option Addr) (c : Nat) (ns : List Nd) (hL0 : ns.length ≤ 5000) (hks0 : ∀ x ∈ ns, x.kids.length ≤ 20000) (ha : NodesAt W0 p ns) (hv : VPre ns ns.length) :
    ∀ (f n : Nat), n < f → n < ns.length → ∀ W, Below W0.heap.size W0 W → Calls Tryz.prog 41 #[.slice p ns.length c, .int .i64 (n : Int)] W
      fun e w' => e = .returned (.bool (endsF ns f n)) ∧ Below W.heap.size W w' := by
  intro f
  induction f with
  | zero => intro n hn; omega
  | succ f ih =>
    intro n hn hnl W hW
    obtain ⟨b, o, rfl, hb, hx, hf, c0, c1, c2, c3⟩ := nd_at ha hnl
    have hka := kindAt_of hx
    have hkd := kidsAt_of hx
    have hvn := hv n _ hnl hx
    have hks := hks0 ns[n] (List.getElem_mem hnl)
    have e0 := (hW.cell (p := ⟨b, _, none⟩) hb).trans c0
    have e2 := (hW.cell (p := ⟨b, _, none⟩) hb).trans c2
    have mb : b < W.heap.size := by have := hW.size; omega
    have Ha := hid ha
    have HW := hid hW
    have Ih := hid ih
    have Hv := hid hv
    have Hf := hid hf.2.2.2.2.2
    have Hkid := hid hvn.kids
    have Hks0 := hid hks0
    have hother := endsF_other (ns := ns) (f := f) (n := (n : Int))
    have hnone := endsF_none (ns := ns) (f := f) (n := (n : Int))
    have hlast := fun k => endsF_last (ns := ns) (f := f) (n := (n : Int)) (k := k)
    obtain ⟨L, hL⟩ : ∃ L, L = ns.length := ⟨_, rfl⟩
    rw [← hL] at ih ⊢
    have HL := hid hL
    have hL5 : (L : Int) ≤ 5000 := by omega
    have n0 : (0 : Int) ≤ (n : Int) := by omega
    have n1 : (n : Int) < (L : Int) := by omega
    rw [hka] at hother
    rw [hkd] at hnone
    simp only [hka, hkd] at hlast
    generalize ns[n] = x at *
    obtain ⟨kx, text, kp, kcap, kids, place⟩ := x
    simp only at hother hnone hlast e0 e2 hks Hf Hkid
    obtain ⟨k9, hk9⟩ : ∃ k9, k9 = kids.length := ⟨_, rfl⟩
    rw [← hk9] at e2 hks
    have Hk9 := hid hk9
    have hk20 : (k9 : Int) ≤ 20000 := by omega
    clear c0 c1 c2 c3 ha hW ih hf hvn hka hkd hv hks0 hL hx hk9 hL0
    by_cases hk : kx = 3
    · subst hk
      by_cases hq : k9 = 0
      · have hr := hid (hnone (List.length_eq_zero_iff.1 (by rw [← Hk9.out]; exact hq)))
        rw [hr.out]
        subst hq
        clear hother hnone hlast
        go_enter Tryz.func41, Tryz.ntmps41
        go_wp2
        go_ret
        exact ⟨rfl, by repeat (first | exact Below.refl _ _ | refine bG ?_ _ | refine bA ?_ _ | refine bD ?_ | refine bN ?_ _)⟩
      have hil : k9 - 1 < kids.length := by have := Hk9.out; omega
      rcases Hf.out with ix | ⟨bk, ok, rfl, hbk, hck⟩
      · subst ix; simp at hil
      have ek := (HW.out.cell (p := ⟨bk, _, none⟩) hbk).trans (hck (k9 - 1) hil)
      have mk : bk < W.heap.size := by have := HW.out.size; omega
      have hkin := Hkid.out kids[k9 - 1] (List.getElem_mem hil)
      have hl := hlast kids[k9 - 1] rfl (by rw [List.getLast?_eq_getElem?, ← Hk9.out]; exact List.getElem?_eq_getElem hil)
      obtain ⟨z, hz⟩ : ∃ z : Nat, kids[k9 - 1] = (z : Int) := ⟨(kids[k9 - 1]).toNat, by omega⟩
      rw [hz] at ek hkin hl
      have hzl : z < ns.length := by omega
      obtain ⟨b2, o2, h2, hb2, hx2, hf2, d0, d1, d2, d3⟩ := nd_at Ha.out hzl
      cases h2
      have hkz := kindAt_of hx2
      have hdz := kidsAt_of hx2
      have hvz := Hv.out z _ hzl hx2
      rw [hkz, hdz] at hl
      have f0 := (HW.out.cell (p := ⟨b, _, none⟩) hb).trans d0
      have f1 := (HW.out.cell (p := ⟨b, _, none⟩) hb).trans d1
      have f2 := (HW.out.cell (p := ⟨b, _, none⟩) hb).trans d2
      have f3 := (HW.out.cell (p := ⟨b, _, none⟩) hb).trans d3
      have z0 : (0 : Int) ≤ (z : Int) := by omega
      have z1 : (z : Int) < (L : Int) := by have := HL.out; omega
      have q1 : (0 : Int) < (k9 : Int) := by omega
      obtain ⟨j, hj⟩ : ∃ j, k9 = j + 1 := ⟨k9 - 1, by omega⟩
      subst hj
      rw [show j + 1 - 1 = j by omega] at ek
      have Hf2 := hid hf2.2.2.2.2.2
      rw [hl]
      have Hkz := hid hvz.fits
      have Hkk := hid hvz.kids
      clear hlast hother hnone hkz hdz hx2 hf2 hl d0 d1 d2 d3 hz hck hvz hq hil
      generalize ns[z] = y at *
      obtain ⟨kz, text2, kp2, kcap2, kids2, place2⟩ := y
      simp only at f0 f1 f2 f3 Hf2 Hkz Hkk ⊢
      by_cases h10 : kz = 10
      · subst h10
        rw [decide_eq_true (show (10 : Int) = 10 from rfl), Bool.true_or]
        generalize kids2.length = l2 at *
        go_enter Tryz.func41, Tryz.ntmps41
        go_wp2
        go_ret
        exact ⟨rfl, by repeat (first | exact Below.refl _ _ | refine bG ?_ _ | refine bA ?_ _ | refine bD ?_ | refine bN ?_ _)⟩
      have b10 := ne_beq h10
      rw [decide_eq_false h10, Bool.false_or]
      by_cases h8 : kz = 8
      · subst h8
        rw [decide_eq_true (show (8 : Int) = 8 from rfl), Bool.true_and]
        have h3 : kids2.length = 3 := by
          have := fits_if Hkz.out
          simpa [kindsL] using this
        rcases Hf2.out with ix | ⟨bk2, ok2, rfl, hbk2, hck2⟩
        · subst ix; simp at h3
        have g1 := (HW.out.cell (p := ⟨bk2, _, none⟩) hbk2).trans (hck2 1 (by omega))
        have g2 := (HW.out.cell (p := ⟨bk2, _, none⟩) hbk2).trans (hck2 2 (by omega))
        have mk2 : bk2 < W.heap.size := by have := HW.out.size; omega
        have i1 := Hkk.out kids2[1] (List.getElem_mem _)
        have i2 := Hkk.out kids2[2] (List.getElem_mem _)
        rw [show kids2.getD 1 0 = kids2[1] by rw [List.getD, List.getElem?_eq_getElem (by omega)]; rfl, show kids2.getD 2 0 = kids2[2] by rw [List.getD, List.getElem?_eq_getElem (by omega)]; rfl]
        obtain ⟨u1, hu1⟩ : ∃ u : Nat, kids2[1] = (u : Int) := ⟨(kids2[1]).toNat, by omega⟩
        obtain ⟨u2, hu2⟩ : ∃ u : Nat, kids2[2] = (u : Int) := ⟨(kids2[2]).toNat, by omega⟩
        rw [hu1] at g1 i1 ⊢
        rw [hu2] at g2 i2 ⊢
        rw [h3] at f2
        have H1 : Hid (∀ W', Below W.heap.size W W' → Calls Tryz.prog 41 #[.slice (some ⟨b, o, none⟩) L c, .int .i64 (u1 : Int)] W' fun e w' => e = .returned (.bool (endsF ns f u1)) ∧ Below W'.heap.size W' w') := hid fun W' hW' => by
          have h := Ih.out u1 (by omega) (by omega) W' (bB HW.out hW')
          rw [← HL.out] at h
          exact h
        have H2 : Hid (∀ W', Below W.heap.size W W' → Calls Tryz.prog 41 #[.slice (some ⟨b, o, none⟩) L c, .int .i64 (u2 : Int)] W' fun e w' => e = .returned (.bool (endsF ns f u2)) ∧ Below W'.heap.size W' w') := hid fun W' hW' => by
          have h := Ih.out u2 (by omega) (by omega) W' (bB HW.out hW')
          rw [← HL.out] at h
          exact h
        clear hck2 hu1 hu2 h3
        generalize endsF ns f (u1 : Int) = r1 at *
        generalize endsF ns f (u2 : Int) = r2 at *
        cases r1 with
        | false =>
          go_enter Tryz.func41, Tryz.ntmps41
          go_wp2_with (go_at_call 41; ((with_reducible refine (H1.out _ (by repeat (first | exact Below.refl _ _ | refine bG ?_ _ | refine bA ?_ _ | refine bD ?_ | refine bN ?_ _))).mono ?_)); rintro e w' ⟨rfl, hb⟩; obtain ⟨g3, rfl⟩ := bout hb; clear hb)
          go_ret
          exact ⟨rfl, by repeat (first | exact Below.refl _ _ | refine bG ?_ _ | refine bA ?_ _ | refine bD ?_ | refine bN ?_ _)⟩
        | true =>
          go_enter Tryz.func41, Tryz.ntmps41
          go_wp2_with (first
            | (go_at_call 41; ((with_reducible refine (H1.out _ (by repeat (first | exact Below.refl _ _ | refine bG ?_ _ | refine bA ?_ _ | refine bD ?_ | refine bN ?_ _))).mono ?_)); clear H1; rintro e w' ⟨rfl, hb⟩; obtain ⟨g3, rfl⟩ := bout hb; clear hb)
            | (go_at_call 41; ((with_reducible refine (H2.out _ (by repeat (first | exact Below.refl _ _ | refine bG ?_ _ | refine bA ?_ _ | refine bD ?_ | refine bN ?_ _))).mono ?_)); clear H2; rintro e w' ⟨rfl, hb⟩; obtain ⟨g4, rfl⟩ := bout hb; clear hb))
          go_ret
          exact ⟨rfl, by repeat (first | exact Below.refl _ _ | refine bG ?_ _ | refine bA ?_ _ | refine bD ?_ | refine bN ?_ _)⟩
      · have b8 := ne_beq h8
        rw [decide_eq_false h8, Bool.false_and]
        generalize kids2.length = l2 at *
        clear h8 h10
        go_enter Tryz.func41, Tryz.ntmps41
        go_wp2
        go_ret
        exact ⟨rfl, by repeat (first | exact Below.refl _ _ | refine bG ?_ _ | refine bA ?_ _ | refine bD ?_ | refine bN ?_ _)⟩
    · have hr := hid (hother hk)
      rw [hr.out]
      have b3 : (kx != 3) = true := by simp [bne, ne_beq hk]
      clear hother hnone hlast hk
      go_enter Tryz.func41, Tryz.ntmps41
      go_wp2
      go_ret
      exact ⟨rfl, by repeat (first | exact Below.refl _ _ | refine bG ?_ _ | refine bA ?_ _ | refine bD ?_ | refine bN ?_ _)⟩
end Go.Proofs.YtbgjanmheagilaaGreatDoor
