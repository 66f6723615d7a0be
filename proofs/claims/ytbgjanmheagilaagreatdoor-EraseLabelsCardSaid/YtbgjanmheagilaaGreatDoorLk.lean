/- tree.look, walked: one node looked at. Conditions: the nodes ahead are as they should be. -/
import Derived.Deep.RegionHeld3
import Derived.Deep.RegionWith
import Derived.Test.YtbgjanmheagilaaGreatDoorRo
import Derived.Test.YtbgjanmheagilaaGreatDoorAmSX
set_option linter.unusedVariables false
set_option linter.unusedSimpArgs false
namespace Go.Proofs.YtbgjanmheagilaaGreatDoor
open Go Go.RowKit Go.Nodes
set_option linter.unusedVariables false
set_option linter.unusedSimpArgs false
theorem form_mem {k : Nat} (h1 : 1 ≤ k) (h2 : k ≤ 36) : formOf k ∈ formsT := by
  have h : ((List.range 37).all fun k => Nat.beq k 0 || decide (formOf k ∈ formsT)) = true := by decide +kernel
  have h3 := List.all_eq_true.1 h k (List.mem_range.2 (by omega))
  cases e : Nat.beq k 0 with
  | true => have := Nat.eq_of_beq_eq_true e; omega
  | false => rw [e] at h3; simpa using h3
theorem kids_at {w : World} {p kp : Option Addr} {ns : List Nd} {kids : List Int} (ha : NodesAt w p ns) (hf : IntsAt w kp kids) (n : Nat) (hn : n ≤ ns.length) (hv : VPre ns n) (hkid : ∀ k ∈ kids, 0 ≤ k ∧ k < n) : KidsAt w p kp ns.length (kindsL ns kids) := by
  intro i k hi
  unfold kindsL at hi
  rw [List.getElem?_map] at hi
  cases hg : kids[i]? with
  | none => rw [hg] at hi; cases hi
  | some a =>
    rw [hg] at hi
    simp only [Option.map_some, Option.some.injEq] at hi
    obtain ⟨hil, hga⟩ := List.getElem?_eq_some_iff.1 hg
    have hin := hkid a (List.mem_of_getElem? hg)
    obtain ⟨z, rfl⟩ : ∃ z : Nat, a = (z : Int) := ⟨a.toNat, by omega⟩
    have hzl : z < ns.length := by omega
    obtain ⟨b2, o2, rfl, hb2, hx2, hf2, d0, d1, d2, d3⟩ := nd_at ha hzl
    have hvz := hv z _ (by omega) hx2
    rw [kindAt_of hx2] at hi
    rcases hf with ix | ⟨bk, ok, rfl, hbk, hck⟩
    · subst ix; simp at hil
    have h1 := hvz.k1
    have h2 := hvz.k36
    have hck2 := hck i hil
    rw [hga] at hck2
    refine ⟨by omega, by omega, b2, o2, bk, ok, z, rfl, rfl, hb2, hbk, hzl, hck2, ?_⟩
    rw [d0, ← hi]
    congr 2
    omega
def phiL (S ks : Value) (X kk : Nat) (fo : List UInt8) : Nat → World → Value → Prop
  | 0, w, v => v = S
  | 1, w, v => v = .pointer (some ⟨X + 1, 2, none⟩)
  | 2, w, v => v = ks
  | 3, w, v => v = .pointer (some ⟨X + 1, 0, none⟩)
  | 4, w, v => v = .int .i64 kk
  | 5, w, v => v = .pointer (some ⟨X, kk, none⟩)
  | _, w, v => v = str fo
theorem phiL_below {S ks : Value} {X kk : Nat} {fo : List UInt8} : ∀ (k : Nat) (w w' : World) (v : Value), Below w.heap.size w w' → phiL S ks X kk fo k w v → phiL S ks X kk fo k w' v := by
  intro k w w' v hb h
  unfold phiL at *
  split at h <;> first | exact h | exact h
/-- What looking at a node makes of whose kids are somebody's; none: it throws. -/
def lookF (ns : List Nd) (x : Nd) (n : Nat) (us : List Bool) : Option (List Bool) := match kidsU n x.kids us with
  | none => none
  | some us2 => if okB ns x then some us2 else none
def LookPost (B : Nat) (w W : World) (U : Nat) (r : Option (List Bool)) (e : Ending) (w' : World) : Prop := match r with
  | none => e = .panicked thrown ∧ ∃ us2 g, w' = grow (rowed W U us2) g
  | some us2 => e = .returned (.tuple #[]) ∧ ∃ g, w' = grow (rowed W U us2) g
theorem look_none {B : Nat} {w W : World} {U : Nat} {r : Option (List Bool)} {e : Ending} {w' : World} (us2 : List Bool) (hr : r = none) (he : e = .panicked thrown) (hb : Below (rowed W U us2).heap.size (rowed W U us2) w') : LookPost B w W U r e w' := by
  subst hr
  obtain ⟨g, hg⟩ := bout hb
  exact ⟨he, us2, g, hg⟩
theorem look_some {B : Nat} {w W : World} {U : Nat} {r : Option (List Bool)} {us2 : List Bool} {e : Ending} {w' : World} (hr : r = some us2) (he : e = .returned (.tuple #[])) (g : Gro) (hb : w' = grow (rowed W U us2) g) : LookPost B w W U r e w' := by
  subst hr; exact ⟨he, g, hb⟩
theorem okB_kind {ns : List Nd} {x : Nd} (h : ¬ (1 ≤ x.kind ∧ x.kind ≤ 36)) : okB ns x = false := by unfold okB; rw [decide_eq_false h]; simp
theorem okB_place {ns : List Nd} {x : Nd} (h : ¬ 0 ≤ x.place) : okB ns x = false := by unfold okB; rw [decide_eq_false h]; simp
theorem lookF_no {ns : List Nd} {x : Nd} {n : Nat} {us : List Bool} (h : okB ns x = false) : lookF ns x n us = none := by
  unfold lookF
  cases kidsU n x.kids us with
  | none => rfl
  | some u => simp [h]
set_option maxRecDepth 10000 in
set_option maxHeartbeats 4000000 in
theorem look_any (w W : World) (p : Option Addr) (c : Nat) (ns : List Nd) (hs : Small ns) (hc : Capped ns) (ha : NodesAt w p ns) (hl0 : Lib0 w) (n : Nat) (hn : n < ns.length) (hv : VPre ns n)
    (fa : Array Value) (hfa : ∀ k, 1 ≤ k → k ≤ 36 → fa[k]? = some (str (formOf k))) (U : Nat) (uc : Nat) (us : List Bool) (hus : us.length = ns.length) (hW : Below w.heap.size w W) (hU : w.heap.size ≤ U) (hU2 : U < W.heap.size) :
    Calls Tryz.prog 57 #[.slice p ns.length c, .int .i64 (n : Int), .slice (some ⟨U, 0, none⟩) ns.length uc, .agg fa] (rowed W U us) (LookPost w.heap.size w W U (lookF ns ns[n] n us)) := by
  obtain ⟨b, o, rfl, hb, hx, hf, c0, c1, c2, c3⟩ := nd_at ha hn
  have hsm := hs.2 ns[n] (List.getElem_mem hn)
  have hcap := hc ns[n] (List.getElem_mem hn)
  have Ha := hid ha
  have Hs := hid hs
  have Hc := hid hc
  have Hl := hid hl0
  have Hv := hid hv
  have Hfa := hid hfa
  have HW := hid hW
  have e0 : W.cell? ⟨b, o + n * 4, none⟩ = some (.int .i64 ns[n].kind) := (hW.cell (p := ⟨b, _, none⟩) hb).trans c0
  have e1 : W.cell? ⟨b, o + n * 4 + 1, none⟩ = some (.string ns[n].text) := (hW.cell (p := ⟨b, _, none⟩) hb).trans c1
  have e2 : W.cell? ⟨b, o + n * 4 + 2, none⟩ = some (.slice ns[n].kp ns[n].kids.length ns[n].kcap) := (hW.cell (p := ⟨b, _, none⟩) hb).trans c2
  have e3 : W.cell? ⟨b, o + n * 4 + 3, none⟩ = some (.int .i64 ns[n].place) := (hW.cell (p := ⟨b, _, none⟩) hb).trans c3
  have Hf := hid hf.2.2.2.2.2
  have hL5 : (ns.length : Int) ≤ 5000 := by have := hs.1; omega
  have n0 : (0 : Int) ≤ (n : Int) := by omega
  have n1 : (n : Int) < (ns.length : Int) := by omega
  have bU : ¬ b = U := by omega
  have bw : b < W.heap.size := by omega
  have Hx := hid hx
  clear c0 c1 c2 c3 ha hs hc hl0 hv hfa hW hf hx
  obtain ⟨L, hL⟩ : ∃ L, L = ns.length := ⟨_, rfl⟩
  rw [← hL] at hus hL5 n1 ⊢
  have HL := hid hL
  clear hL
  obtain ⟨q, hq⟩ : ∃ q, q = ns[n].kids.length := ⟨_, rfl⟩
  rw [← hq] at e2
  have hq1 : (q : Int) ≤ 20000 := by have := hsm.1; omega
  generalize hxx : ns[n] = x at *
  obtain ⟨kind, text, kp, kcap, kids, place⟩ := x
  simp only at hsm hcap hq Hf e0 e1 e2 e3
  have Hsm := hid hsm
  have Hcap := hid hcap
  have Hq := hid hq
  have Hxx := hid hxx
  clear hsm hcap hq hxx
  have hbw : Below w.heap.size w (rowed W U us) := below_rowed HW.out hU
  have Hbw := hid hbw
  clear hbw
  by_cases hk0 : kind ≤ 0
  · have hr : lookF ns ⟨kind, text, kp, kcap, kids, place⟩ n us = none := lookF_no (okB_kind (by simp only; omega))
    have Hr := hid hr
    clear hr
    go_enter Tryz.func57, Tryz.ntmps57
    go_wp2_with (go_at_call 91; ((with_reducible refine (must_no _).mono ?_)); rintro e w' ⟨rfl, hw⟩; rw [hw]; clear hw w')
    refine ⟨rfl, look_none us Hr.out rfl ?_⟩
    repeat (first | exact Below.refl _ _ | refine bG ?_ _ | refine bI ?_ _ _ | refine bA ?_ _ | refine bD ?_ | refine bN ?_ _)
  by_cases hk37 : 36 < kind
  · have hr : lookF ns ⟨kind, text, kp, kcap, kids, place⟩ n us = none := lookF_no (okB_kind (by simp only; omega))
    have Hr := hid hr
    clear hr
    have hk38 : ¬ kind < 37 := by omega
    go_enter Tryz.func57, Tryz.ntmps57
    go_wp2_with (go_at_call 91; ((with_reducible refine (must_no _).mono ?_)); rintro e w' ⟨rfl, hw⟩; rw [hw]; clear hw w')
    refine ⟨rfl, look_none us Hr.out rfl ?_⟩
    repeat (first | exact Below.refl _ _ | refine bG ?_ _ | refine bI ?_ _ _ | refine bA ?_ _ | refine bD ?_ | refine bN ?_ _)
  by_cases hpl : place < 0
  · have hr : lookF ns ⟨kind, text, kp, kcap, kids, place⟩ n us = none := lookF_no (okB_place (by simp only; omega))
    have Hr := hid hr
    clear hr
    have hk38 : kind < 37 := by omega
    have hk39 : 0 < kind := by omega
    have hpl2 : ¬ 0 ≤ place := by omega
    go_enter Tryz.func57, Tryz.ntmps57
    go_wp2_with (go_at_call 91; ((with_reducible refine (must_no _).mono ?_)); rintro e w' ⟨rfl, hw⟩; rw [hw]; clear hw w')
    refine ⟨rfl, look_none us Hr.out rfl ?_⟩
    repeat (first | exact Below.refl _ _ | refine bG ?_ _ | refine bI ?_ _ _ | refine bA ?_ _ | refine bD ?_ | refine bN ?_ _)
  obtain ⟨k, rfl⟩ : ∃ k : Nat, kind = (k : Int) := ⟨kind.toNat, by omega⟩
  have hk38 : (k : Int) < 37 := by omega
  have hk39 : (0 : Int) < (k : Int) := by omega
  have hk1 : 1 ≤ k := by omega
  have hk36 : k ≤ 36 := by omega
  have hpl0 : (0 : Int) ≤ place := by omega
  clear hk0 hk37 hpl
  go_enter Tryz.func57, Tryz.ntmps57
  go_wp2_with (go_at_call 91; ((with_reducible refine (must_yes _).mono ?_)); rintro e w' ⟨rfl, hw⟩; rw [hw]; clear hw w')
  go_loopw [32] (fun i wr => ∃ (j : Nat) (us2 : List Bool), j ≤ q ∧ i = .int .i64 j ∧ us2.length = L ∧
    wr = ((rowed W U us2).alloc (.cells fa 85)).alloc (.cells #[.int .i64 k, .string text, .slice kp q kcap, .int .i64 place] 30) ∧ Hid (kidsU n (kids.drop j) us2 = kidsU n kids us)) (fun i _ => q - (intOf i).toNat)
  case atStart => exact ⟨0, us, by omega, rfl, hus, rfl, hid rfl⟩
  case round =>
    obtain ⟨j, us2, hj, rfl, hul2, rfl, hI⟩ := hrel
    have hbw2 : Hid (Below w.heap.size w (((rowed W U us2).alloc (.cells fa 85)).alloc (.cells #[.int .i64 k, .string text, .slice kp q kcap, .int .i64 place] 30))) := hid (bA (bA (below_rowed HW.out hU) _) _)
    by_cases hjq : j < q
    · have hjk : j < kids.length := by have := Hq.out; omega
      rcases Hf.out with ix | ⟨bx, ox, hpx, hbx, hcx⟩
      · subst ix; simp at hjk
      subst hpx
      replace hcx := (HW.out.cell (p := ⟨bx, _, none⟩) hbx).trans (hcx j hjk)
      have bxU : ¬ bx = U := by omega
      have bxw : bx < W.heap.size := by have := HW.out.size; omega
      have hkd := kidsU_drop n kids j hjk us2
      rw [hI.out] at hkd
      generalize kids[j] = u at *
      have q0 : (0 : Int) ≤ (j : Int) := by omega
      have q1 : (j : Int) < (q : Int) := by omega
      have hbad : ¬ (0 ≤ u ∧ u < n ∧ us2.getD u.toNat false = false) → lookF ns ⟨k, text, some ⟨bx, ox, none⟩, kcap, kids, place⟩ n us = none := fun hno => by
        rw [if_neg hno] at hkd
        unfold lookF
        simp only [hkd]
      by_cases hu0 : u < 0
      · have Hb := hid (hbad (by omega))
        have hu00 : ¬ (0 : Int) ≤ u := by omega
        clear hbad hkd
        go_wp2_with (go_at_call 91; ((with_reducible refine (must_no _).mono ?_)); rintro e w' ⟨rfl, hw⟩; rw [hw]; clear hw w')
        refine ⟨rfl, look_none us2 Hb.out rfl ?_⟩
        repeat (first | exact Below.refl _ _ | refine bG ?_ _ | refine bI ?_ _ _ | refine bA ?_ _ | refine bD ?_ | refine bN ?_ _)
      by_cases hu1 : (n : Int) ≤ u
      · have Hb := hid (hbad (by omega))
        have hu2 : 0 ≤ u := by omega
        have hu3 : ¬ u < (n : Int) := by omega
        clear hbad hkd
        go_wp2_with (go_at_call 91; ((with_reducible refine (must_no _).mono ?_)); rintro e w' ⟨rfl, hw⟩; rw [hw]; clear hw w')
        refine ⟨rfl, look_none us2 Hb.out rfl ?_⟩
        repeat (first | exact Below.refl _ _ | refine bG ?_ _ | refine bI ?_ _ _ | refine bA ?_ _ | refine bD ?_ | refine bN ?_ _)
      obtain ⟨z, rfl⟩ : ∃ z : Nat, u = (z : Int) := ⟨u.toNat, by omega⟩
      rw [Int.toNat_natCast] at hbad hkd
      have hz1 : z < us2.length := by omega
      have hz2 : us2[z]? = some (us2.getD z false) := by rw [List.getD, List.getElem?_eq_getElem hz1]; rfl
      have z0 : (0 : Int) ≤ (z : Int) := by omega
      have z1 : (z : Int) < (n : Int) := by omega
      have z2 : (z : Int) < (L : Int) := by omega
      cases hub : us2.getD z false with
      | true =>
        have Hb := hid (hbad (by rw [hub]; simp))
        rw [hub] at hz2
        clear hbad hkd hub
        go_wp2_with (go_at_call 91; ((with_reducible refine (must_no _).mono ?_)); rintro e w' ⟨rfl, hw⟩; rw [hw]; clear hw w')
        refine ⟨rfl, look_none us2 Hb.out rfl ?_⟩
        repeat (first | exact Below.refl _ _ | refine bG ?_ _ | refine bI ?_ _ _ | refine bA ?_ _ | refine bD ?_ | refine bN ?_ _)
      | false =>
        rw [hub] at hz2
        rw [if_pos ⟨z0, z1, hub⟩] at hkd
        have Hkd := hid hkd
        clear hbad hkd hub
        go_wp2_with (go_at_call 91; ((with_reducible refine (must_yes _).mono ?_)); rintro e w' ⟨rfl, hw⟩; rw [hw]; clear hw w')
        go_roundw
        case rel => exact ⟨j + 1, us2.set z true, by omega, by go_num, by simp [hul2], rfl, hid Hkd.out.symm⟩
        case measure => simp [intOf]; omega
    · obtain rfl : j = q := by omega
      have hks : kidsU n kids us = some us2 := by rw [← hI.out, Hq.out, List.drop_length]; rfl
      have hkin := kidsU_in n kids us us2 hks
      have Hks := hid hks
      have HX : Hid (Below w.heap.size w (((rowed W U us2).alloc (.cells fa 85)).alloc (.cells #[.int .i64 k, .string text, .slice kp j kcap, .int .i64 place] 30))) := hbw2
      clear hI hks hbw2
      have hfk : fa[k]? = some (str (formOf k)) := Hfa.out k hk1 hk36
      have hn2 : n ≤ ns.length := by omega
      obtain ⟨fb, hfb⟩ : ∃ fb, fb = fitsF (formOf k) (kindsL ns kids) := ⟨_, rfl⟩
      have hfits : ∀ W', Below w.heap.size w W' → Calls Tryz.prog 92 #[.slice (some ⟨b, o, none⟩) L c, .slice kp j kcap, str (formOf k)] W' fun e w' => e = must_end fb ∧ Below W'.heap.size W' w' := fun W' hW' => by
        rw [hfb, HL.out]
        exact fits_any W' (some ⟨b, o, none⟩) kp ns.length c j kcap (formOf k) (form_mem hk1 hk36) (by omega) (by have := HL.out; omega) _ (by simp [kindsL, Hq.out]) (kids_at (NodesAt.later Ha.out hW') (IntsAt.later Hf.out hW') n hn2 Hv.out hkin)
      obtain ⟨tb, htb⟩ : ∃ tb, tb = textS k text.data.toList j := ⟨_, rfl⟩
      have hsays : ∀ W', Below w.heap.size w W' → Calls Tryz.prog 93 #[.agg #[.int .i64 (k : Int), .string text, .slice kp j kcap, .int .i64 place]] W' fun e w' => e = .returned (.bool tb) ∧ Below W'.heap.size W' w' := fun W' hW' => by
        rw [htb]
        exact says_any k hk1 hk36 text (by have := Hsm.out.2; omega) kp j kcap place W' (Lib0.later Hl.out hW')
      obtain ⟨eb, heb⟩ : ∃ eb, eb = extraS ns ⟨k, text, kp, kcap, kids, place⟩ := ⟨_, rfl⟩
      have hmore : fb = true → tb = true → ∀ W', Below w.heap.size w W' → Calls Tryz.prog 94 #[.slice (some ⟨b, o, none⟩) L c, .agg #[.int .i64 (k : Int), .string text, .slice kp j kcap, .int .i64 place]] W' fun e w' => e = must_end eb ∧ Below W'.heap.size W' w' := fun h1 h2 W' hW' => by
        have h := more_any W' (some ⟨b, o, none⟩) c ns Hs.out (NodesAt.later Ha.out hW') (Lib0.later Hl.out hW') n hn Hv.out ⟨k, text, kp, kcap, kids, place⟩ (IntsAt.later Hf.out hW') Hsm.out.1 Hsm.out.2 Hcap.out
          ⟨by simp only; omega, by simp only; omega, hkin, by rw [Int.toNat_natCast]; simp only; rw [← hfb]; exact h1, by rw [Int.toNat_natCast]; simp only; rw [← Hq.out, ← htb]; exact h2⟩
        unfold ndV at h
        simp only at h
        rw [← HL.out, ← Hq.out, ← heb] at h
        exact h
      have hok : okB ns ⟨k, text, kp, kcap, kids, place⟩ = (fb && tb && eb) := by
        unfold okB
        simp only [decide_eq_true hpl0, decide_eq_true (show (1 : Int) ≤ (k : Int) ∧ (k : Int) ≤ 36 by omega), Bool.true_and, Int.toNat_natCast, ← Hq.out, ← hfb, ← htb, ← heb]
      have Hfits := hid hfits
      have Hsays := hid hsays
      have Hmore := hid hmore
      have hlook : lookF ns ⟨k, text, kp, kcap, kids, place⟩ n us = if (fb && tb && eb) = true then some us2 else none := by
        unfold lookF
        simp only [Hks.out, hok]
      have Hlook := hid hlook
      clear hfits hsays hmore hok hlook hfb htb heb hkin hn2
      generalize formOf k = fo at *
      cases fb with
      | false =>
        replace Hfits : Hid (∀ W', Below w.heap.size w W' → Calls Tryz.prog 92 #[.slice (some ⟨b, o, none⟩) L c, .slice kp j kcap, str fo] W' fun e w' => e = .panicked thrown ∧ Below W'.heap.size W' w') := Hfits
        go_wp2
        refine wp_region_any (by kernel_rfl) ?_
        refine Am.any_cut _ 7 rfl (by kernel_rfl) ?_
        simp only [List.take_succ_cons, List.take_zero]
        refine Am.draw_phi_any (Φ := phiL (.slice (some ⟨b, o, none⟩) L c) (.slice kp j kcap) W.heap.size k fo) (w0 := (((rowed W U us2).alloc (.cells fa 85)).alloc (.cells #[.int .i64 k, .string text, .slice kp j kcap, .int .i64 place] 30))) (by kernel_rfl) (by kernel_rfl) phiL_below ?_ ?_ _ ((Below.refl _ _).drew)
        · intro kq o ca w1 ho hb hlook K hK
          have hc2 : w1.cell? ⟨W.heap.size + 1, 2, none⟩ = some (.slice kp j kcap) := (hb.cell (p := ⟨_, 2, none⟩) (by simp)).trans (by simp [go_sem])
          have hc0 : w1.cell? ⟨W.heap.size + 1, 0, none⟩ = some (.int .i64 k) := (hb.cell (p := ⟨_, 0, none⟩) (by simp)).trans (by simp [go_sem])
          have hcf : w1.cell? ⟨W.heap.size, k, none⟩ = some (str fo) := (hb.cell (p := ⟨_, k, none⟩) (by simp; omega)).trans (by simp [go_sem, hfk])
          have hk40 : (0 : Int) ≤ (k : Int) := by omega
          have hfn : ∀ f, ca.eval (.func f) = .func (.func f) #[] #[] := fun _ => rfl
          have hcs : ∀ v, ca.eval (.const v) = v := fun _ => rfl
          rcases kq with _ | _ | _ | _ | _ | _ | _ | kq
          · cases ho
            have h0 := Am.eval_tmp (Am.look_old (t := 0) hlook (by kernel_rfl) (by kernel_rfl) rfl)
            refine Am.wpOp_run rfl rfl (Am.wp_value (v := .slice (some ⟨b, o, none⟩) L c) ?_ (hK _ _ (Below.refl _ _) rfl))
            generalize ca.eval = ev at *
            simp [go_sem, execOp, hfn, hcs, h0]
          · cases ho
            have h8 := Am.eval_tmp (Am.look_old (t := 8) hlook (by kernel_rfl) (by kernel_rfl) rfl)
            refine Am.wpOp_run rfl rfl (Am.wp_value (v := .pointer (some ⟨W.heap.size + 1, 2, none⟩)) ?_ (hK _ _ (Below.refl _ _) rfl))
            generalize ca.eval = ev at *
            simp [go_sem, execOp, hfn, hcs, h8]
          · cases ho
            have h56 : (ca.tmps.getD 56 undef) = .pointer (some ⟨W.heap.size + 1, 2, none⟩) := Am.look_of (j := 1) hlook (by kernel_rfl) rfl rfl
            replace h56 := Am.eval_tmp h56
            refine Am.wpOp_run rfl rfl (Am.wp_value (v := .slice kp j kcap) ?_ (hK _ _ (Below.refl _ _) rfl))
            generalize ca.eval = ev at *
            simp [go_sem, execOp, hfn, hcs, h56, hc2]
          · cases ho
            have h8 := Am.eval_tmp (Am.look_old (t := 8) hlook (by kernel_rfl) (by kernel_rfl) rfl)
            refine Am.wpOp_run rfl rfl (Am.wp_value (v := .pointer (some ⟨W.heap.size + 1, 0, none⟩)) ?_ (hK _ _ (Below.refl _ _) rfl))
            generalize ca.eval = ev at *
            simp [go_sem, execOp, hfn, hcs, h8]
          · cases ho
            have h58 : (ca.tmps.getD 58 undef) = .pointer (some ⟨W.heap.size + 1, 0, none⟩) := Am.look_of (j := 3) hlook (by kernel_rfl) rfl rfl
            replace h58 := Am.eval_tmp h58
            refine Am.wpOp_run rfl rfl (Am.wp_value (v := .int .i64 k) ?_ (hK _ _ (Below.refl _ _) rfl))
            generalize ca.eval = ev at *
            simp [go_sem, execOp, hfn, hcs, h58, hc0]
          · cases ho
            have h7 := Am.eval_tmp (Am.look_old (t := 7) hlook (by kernel_rfl) (by kernel_rfl) rfl)
            have h59 : (ca.tmps.getD 59 undef) = .int .i64 k := Am.look_of (j := 4) hlook (by kernel_rfl) rfl rfl
            replace h59 := Am.eval_tmp h59
            refine Am.wpOp_run rfl rfl (Am.wp_value (v := .pointer (some ⟨W.heap.size, k, none⟩)) ?_ (hK _ _ (Below.refl _ _) rfl))
            generalize ca.eval = ev at *
            simp [go_sem, execOp, hfn, hcs, h7, h59, hk38, hk40]
          · cases ho
            have h60 : (ca.tmps.getD 60 undef) = .pointer (some ⟨W.heap.size, k, none⟩) := Am.look_of (j := 5) hlook (by kernel_rfl) rfl rfl
            replace h60 := Am.eval_tmp h60
            refine Am.wpOp_run rfl rfl (Am.wp_value (v := str fo) ?_ (hK _ _ (Below.refl _ _) rfl))
            generalize ca.eval = ev at *
            simp [go_sem, execOp, hfn, hcs, h60, hcf]
          · simp at ho
        · intro ca w1 hb hd hs hphi hoth
          have h55 : ca.tmps.getD 55 undef = .slice (some ⟨b, o, none⟩) L c := hphi 0 _ 55 rfl rfl
          have h57 : ca.tmps.getD 57 undef = .slice kp j kcap := hphi 2 _ 57 rfl rfl
          have h61 : ca.tmps.getD 61 undef = str fo := hphi 6 _ 61 rfl rfl
          have hca := Am.frame_out hd hs hoth
          simp only [List.foldl_cons, List.foldl_nil, h55, h57, h61] at hca
          generalize ca.tmps.getD 56 undef = x56 at hca
          generalize ca.tmps.getD 58 undef = x58 at hca
          generalize ca.tmps.getD 59 undef = x59 at hca
          generalize ca.tmps.getD 60 undef = x60 at hca
          subst hca
          simp only [List.setIfInBounds_toArray, List.set_cons_succ, List.set_cons_zero]
          obtain ⟨g1, rfl⟩ := bout hb
          clear hb hd hs hphi hoth h55 h57 h61
          simp only [Am.LastW]
          go_wp2_with (first
            | (go_at_call 92; ((with_reducible refine (Hfits.out _ (by repeat (first | exact Below.refl _ _ | exact HX.out | refine bG ?_ _ | refine bI ?_ _ _ | refine bA ?_ _ | refine bD ?_ | refine bN ?_ _))).mono ?_)); rintro e w' ⟨rfl, hb⟩; obtain ⟨g2, rfl⟩ := bout hb; clear hb)
            )
          refine ⟨rfl, look_none us2 Hlook.out rfl ?_⟩
          repeat (first | exact Below.refl _ _ | exact HX.out | refine bG ?_ _ | refine bI ?_ _ _ | refine bA ?_ _ | refine bD ?_ | refine bN ?_ _)
      | true =>
        replace Hfits : Hid (∀ W', Below w.heap.size w W' → Calls Tryz.prog 92 #[.slice (some ⟨b, o, none⟩) L c, .slice kp j kcap, str fo] W' fun e w' => e = .returned (.tuple #[]) ∧ Below W'.heap.size W' w') := Hfits
        cases tb with
        | false =>
          go_wp2
          refine wp_region_any (by kernel_rfl) ?_
          refine Am.any_cut _ 7 rfl (by kernel_rfl) ?_
          simp only [List.take_succ_cons, List.take_zero]
          refine Am.draw_phi_any (Φ := phiL (.slice (some ⟨b, o, none⟩) L c) (.slice kp j kcap) W.heap.size k fo) (w0 := (((rowed W U us2).alloc (.cells fa 85)).alloc (.cells #[.int .i64 k, .string text, .slice kp j kcap, .int .i64 place] 30))) (by kernel_rfl) (by kernel_rfl) phiL_below ?_ ?_ _ ((Below.refl _ _).drew)
          · intro kq o ca w1 ho hb hlook K hK
            have hc2 : w1.cell? ⟨W.heap.size + 1, 2, none⟩ = some (.slice kp j kcap) := (hb.cell (p := ⟨_, 2, none⟩) (by simp)).trans (by simp [go_sem])
            have hc0 : w1.cell? ⟨W.heap.size + 1, 0, none⟩ = some (.int .i64 k) := (hb.cell (p := ⟨_, 0, none⟩) (by simp)).trans (by simp [go_sem])
            have hcf : w1.cell? ⟨W.heap.size, k, none⟩ = some (str fo) := (hb.cell (p := ⟨_, k, none⟩) (by simp; omega)).trans (by simp [go_sem, hfk])
            have hk40 : (0 : Int) ≤ (k : Int) := by omega
            have hfn : ∀ f, ca.eval (.func f) = .func (.func f) #[] #[] := fun _ => rfl
            have hcs : ∀ v, ca.eval (.const v) = v := fun _ => rfl
            rcases kq with _ | _ | _ | _ | _ | _ | _ | kq
            · cases ho
              have h0 := Am.eval_tmp (Am.look_old (t := 0) hlook (by kernel_rfl) (by kernel_rfl) rfl)
              refine Am.wpOp_run rfl rfl (Am.wp_value (v := .slice (some ⟨b, o, none⟩) L c) ?_ (hK _ _ (Below.refl _ _) rfl))
              generalize ca.eval = ev at *
              simp [go_sem, execOp, hfn, hcs, h0]
            · cases ho
              have h8 := Am.eval_tmp (Am.look_old (t := 8) hlook (by kernel_rfl) (by kernel_rfl) rfl)
              refine Am.wpOp_run rfl rfl (Am.wp_value (v := .pointer (some ⟨W.heap.size + 1, 2, none⟩)) ?_ (hK _ _ (Below.refl _ _) rfl))
              generalize ca.eval = ev at *
              simp [go_sem, execOp, hfn, hcs, h8]
            · cases ho
              have h56 : (ca.tmps.getD 56 undef) = .pointer (some ⟨W.heap.size + 1, 2, none⟩) := Am.look_of (j := 1) hlook (by kernel_rfl) rfl rfl
              replace h56 := Am.eval_tmp h56
              refine Am.wpOp_run rfl rfl (Am.wp_value (v := .slice kp j kcap) ?_ (hK _ _ (Below.refl _ _) rfl))
              generalize ca.eval = ev at *
              simp [go_sem, execOp, hfn, hcs, h56, hc2]
            · cases ho
              have h8 := Am.eval_tmp (Am.look_old (t := 8) hlook (by kernel_rfl) (by kernel_rfl) rfl)
              refine Am.wpOp_run rfl rfl (Am.wp_value (v := .pointer (some ⟨W.heap.size + 1, 0, none⟩)) ?_ (hK _ _ (Below.refl _ _) rfl))
              generalize ca.eval = ev at *
              simp [go_sem, execOp, hfn, hcs, h8]
            · cases ho
              have h58 : (ca.tmps.getD 58 undef) = .pointer (some ⟨W.heap.size + 1, 0, none⟩) := Am.look_of (j := 3) hlook (by kernel_rfl) rfl rfl
              replace h58 := Am.eval_tmp h58
              refine Am.wpOp_run rfl rfl (Am.wp_value (v := .int .i64 k) ?_ (hK _ _ (Below.refl _ _) rfl))
              generalize ca.eval = ev at *
              simp [go_sem, execOp, hfn, hcs, h58, hc0]
            · cases ho
              have h7 := Am.eval_tmp (Am.look_old (t := 7) hlook (by kernel_rfl) (by kernel_rfl) rfl)
              have h59 : (ca.tmps.getD 59 undef) = .int .i64 k := Am.look_of (j := 4) hlook (by kernel_rfl) rfl rfl
              replace h59 := Am.eval_tmp h59
              refine Am.wpOp_run rfl rfl (Am.wp_value (v := .pointer (some ⟨W.heap.size, k, none⟩)) ?_ (hK _ _ (Below.refl _ _) rfl))
              generalize ca.eval = ev at *
              simp [go_sem, execOp, hfn, hcs, h7, h59, hk38, hk40]
            · cases ho
              have h60 : (ca.tmps.getD 60 undef) = .pointer (some ⟨W.heap.size, k, none⟩) := Am.look_of (j := 5) hlook (by kernel_rfl) rfl rfl
              replace h60 := Am.eval_tmp h60
              refine Am.wpOp_run rfl rfl (Am.wp_value (v := str fo) ?_ (hK _ _ (Below.refl _ _) rfl))
              generalize ca.eval = ev at *
              simp [go_sem, execOp, hfn, hcs, h60, hcf]
            · simp at ho
          · intro ca w1 hb hd hs hphi hoth
            have h55 : ca.tmps.getD 55 undef = .slice (some ⟨b, o, none⟩) L c := hphi 0 _ 55 rfl rfl
            have h57 : ca.tmps.getD 57 undef = .slice kp j kcap := hphi 2 _ 57 rfl rfl
            have h61 : ca.tmps.getD 61 undef = str fo := hphi 6 _ 61 rfl rfl
            have hca := Am.frame_out hd hs hoth
            simp only [List.foldl_cons, List.foldl_nil, h55, h57, h61] at hca
            generalize ca.tmps.getD 56 undef = x56 at hca
            generalize ca.tmps.getD 58 undef = x58 at hca
            generalize ca.tmps.getD 59 undef = x59 at hca
            generalize ca.tmps.getD 60 undef = x60 at hca
            subst hca
            simp only [List.setIfInBounds_toArray, List.set_cons_succ, List.set_cons_zero]
            obtain ⟨g1, rfl⟩ := bout hb
            clear hb hd hs hphi hoth h55 h57 h61
            simp only [Am.LastW]
            go_wp2_with (first
              | (go_at_call 92; ((with_reducible refine (Hfits.out _ (by repeat (first | exact Below.refl _ _ | exact HX.out | refine bG ?_ _ | refine bI ?_ _ _ | refine bA ?_ _ | refine bD ?_ | refine bN ?_ _))).mono ?_)); rintro e w' ⟨rfl, hb⟩; obtain ⟨g2, rfl⟩ := bout hb; clear hb)
              | (go_at_call 93; ((with_reducible refine (Hsays.out _ (by repeat (first | exact Below.refl _ _ | exact HX.out | refine bG ?_ _ | refine bI ?_ _ _ | refine bA ?_ _ | refine bD ?_ | refine bN ?_ _))).mono ?_)); rintro e w' ⟨rfl, hb⟩; obtain ⟨g3, rfl⟩ := bout hb; clear hb)
              | (go_at_call 91; ((with_reducible refine (must_no _).mono ?_)); rintro e w' ⟨rfl, hw⟩; rw [hw]; clear hw w')
              )
            refine ⟨rfl, look_none us2 Hlook.out rfl ?_⟩
            repeat (first | exact Below.refl _ _ | exact HX.out | refine bG ?_ _ | refine bI ?_ _ _ | refine bA ?_ _ | refine bD ?_ | refine bN ?_ _)
        | true =>
          cases eb with
          | false =>
            replace Hmore : Hid (∀ W', Below w.heap.size w W' → Calls Tryz.prog 94 #[.slice (some ⟨b, o, none⟩) L c, .agg #[.int .i64 (k : Int), .string text, .slice kp j kcap, .int .i64 place]] W' fun e w' => e = .panicked thrown ∧ Below W'.heap.size W' w') := hid (Hmore.out rfl rfl)
            go_wp2
            refine wp_region_any (by kernel_rfl) ?_
            refine Am.any_cut _ 7 rfl (by kernel_rfl) ?_
            simp only [List.take_succ_cons, List.take_zero]
            refine Am.draw_phi_any (Φ := phiL (.slice (some ⟨b, o, none⟩) L c) (.slice kp j kcap) W.heap.size k fo) (w0 := (((rowed W U us2).alloc (.cells fa 85)).alloc (.cells #[.int .i64 k, .string text, .slice kp j kcap, .int .i64 place] 30))) (by kernel_rfl) (by kernel_rfl) phiL_below ?_ ?_ _ ((Below.refl _ _).drew)
            · intro kq o ca w1 ho hb hlook K hK
              have hc2 : w1.cell? ⟨W.heap.size + 1, 2, none⟩ = some (.slice kp j kcap) := (hb.cell (p := ⟨_, 2, none⟩) (by simp)).trans (by simp [go_sem])
              have hc0 : w1.cell? ⟨W.heap.size + 1, 0, none⟩ = some (.int .i64 k) := (hb.cell (p := ⟨_, 0, none⟩) (by simp)).trans (by simp [go_sem])
              have hcf : w1.cell? ⟨W.heap.size, k, none⟩ = some (str fo) := (hb.cell (p := ⟨_, k, none⟩) (by simp; omega)).trans (by simp [go_sem, hfk])
              have hk40 : (0 : Int) ≤ (k : Int) := by omega
              have hfn : ∀ f, ca.eval (.func f) = .func (.func f) #[] #[] := fun _ => rfl
              have hcs : ∀ v, ca.eval (.const v) = v := fun _ => rfl
              rcases kq with _ | _ | _ | _ | _ | _ | _ | kq
              · cases ho
                have h0 := Am.eval_tmp (Am.look_old (t := 0) hlook (by kernel_rfl) (by kernel_rfl) rfl)
                refine Am.wpOp_run rfl rfl (Am.wp_value (v := .slice (some ⟨b, o, none⟩) L c) ?_ (hK _ _ (Below.refl _ _) rfl))
                generalize ca.eval = ev at *
                simp [go_sem, execOp, hfn, hcs, h0]
              · cases ho
                have h8 := Am.eval_tmp (Am.look_old (t := 8) hlook (by kernel_rfl) (by kernel_rfl) rfl)
                refine Am.wpOp_run rfl rfl (Am.wp_value (v := .pointer (some ⟨W.heap.size + 1, 2, none⟩)) ?_ (hK _ _ (Below.refl _ _) rfl))
                generalize ca.eval = ev at *
                simp [go_sem, execOp, hfn, hcs, h8]
              · cases ho
                have h56 : (ca.tmps.getD 56 undef) = .pointer (some ⟨W.heap.size + 1, 2, none⟩) := Am.look_of (j := 1) hlook (by kernel_rfl) rfl rfl
                replace h56 := Am.eval_tmp h56
                refine Am.wpOp_run rfl rfl (Am.wp_value (v := .slice kp j kcap) ?_ (hK _ _ (Below.refl _ _) rfl))
                generalize ca.eval = ev at *
                simp [go_sem, execOp, hfn, hcs, h56, hc2]
              · cases ho
                have h8 := Am.eval_tmp (Am.look_old (t := 8) hlook (by kernel_rfl) (by kernel_rfl) rfl)
                refine Am.wpOp_run rfl rfl (Am.wp_value (v := .pointer (some ⟨W.heap.size + 1, 0, none⟩)) ?_ (hK _ _ (Below.refl _ _) rfl))
                generalize ca.eval = ev at *
                simp [go_sem, execOp, hfn, hcs, h8]
              · cases ho
                have h58 : (ca.tmps.getD 58 undef) = .pointer (some ⟨W.heap.size + 1, 0, none⟩) := Am.look_of (j := 3) hlook (by kernel_rfl) rfl rfl
                replace h58 := Am.eval_tmp h58
                refine Am.wpOp_run rfl rfl (Am.wp_value (v := .int .i64 k) ?_ (hK _ _ (Below.refl _ _) rfl))
                generalize ca.eval = ev at *
                simp [go_sem, execOp, hfn, hcs, h58, hc0]
              · cases ho
                have h7 := Am.eval_tmp (Am.look_old (t := 7) hlook (by kernel_rfl) (by kernel_rfl) rfl)
                have h59 : (ca.tmps.getD 59 undef) = .int .i64 k := Am.look_of (j := 4) hlook (by kernel_rfl) rfl rfl
                replace h59 := Am.eval_tmp h59
                refine Am.wpOp_run rfl rfl (Am.wp_value (v := .pointer (some ⟨W.heap.size, k, none⟩)) ?_ (hK _ _ (Below.refl _ _) rfl))
                generalize ca.eval = ev at *
                simp [go_sem, execOp, hfn, hcs, h7, h59, hk38, hk40]
              · cases ho
                have h60 : (ca.tmps.getD 60 undef) = .pointer (some ⟨W.heap.size, k, none⟩) := Am.look_of (j := 5) hlook (by kernel_rfl) rfl rfl
                replace h60 := Am.eval_tmp h60
                refine Am.wpOp_run rfl rfl (Am.wp_value (v := str fo) ?_ (hK _ _ (Below.refl _ _) rfl))
                generalize ca.eval = ev at *
                simp [go_sem, execOp, hfn, hcs, h60, hcf]
              · simp at ho
            · intro ca w1 hb hd hs hphi hoth
              have h55 : ca.tmps.getD 55 undef = .slice (some ⟨b, o, none⟩) L c := hphi 0 _ 55 rfl rfl
              have h57 : ca.tmps.getD 57 undef = .slice kp j kcap := hphi 2 _ 57 rfl rfl
              have h61 : ca.tmps.getD 61 undef = str fo := hphi 6 _ 61 rfl rfl
              have hca := Am.frame_out hd hs hoth
              simp only [List.foldl_cons, List.foldl_nil, h55, h57, h61] at hca
              generalize ca.tmps.getD 56 undef = x56 at hca
              generalize ca.tmps.getD 58 undef = x58 at hca
              generalize ca.tmps.getD 59 undef = x59 at hca
              generalize ca.tmps.getD 60 undef = x60 at hca
              subst hca
              simp only [List.setIfInBounds_toArray, List.set_cons_succ, List.set_cons_zero]
              obtain ⟨g1, rfl⟩ := bout hb
              clear hb hd hs hphi hoth h55 h57 h61
              simp only [Am.LastW]
              go_wp2_with (first
                | (go_at_call 92; ((with_reducible refine (Hfits.out _ (by repeat (first | exact Below.refl _ _ | exact HX.out | refine bG ?_ _ | refine bI ?_ _ _ | refine bA ?_ _ | refine bD ?_ | refine bN ?_ _))).mono ?_)); rintro e w' ⟨rfl, hb⟩; obtain ⟨g2, rfl⟩ := bout hb; clear hb)
                | (go_at_call 93; ((with_reducible refine (Hsays.out _ (by repeat (first | exact Below.refl _ _ | exact HX.out | refine bG ?_ _ | refine bI ?_ _ _ | refine bA ?_ _ | refine bD ?_ | refine bN ?_ _))).mono ?_)); rintro e w' ⟨rfl, hb⟩; obtain ⟨g3, rfl⟩ := bout hb; clear hb)
                | (go_at_call 91; ((with_reducible refine (must_yes _).mono ?_)); rintro e w' ⟨rfl, hw⟩; rw [hw]; clear hw w')
                | (go_at_call 94; ((with_reducible refine (Hmore.out _ (by repeat (first | exact Below.refl _ _ | exact HX.out | refine bG ?_ _ | refine bI ?_ _ _ | refine bA ?_ _ | refine bD ?_ | refine bN ?_ _))).mono ?_)); rintro e w' ⟨rfl, hb⟩; obtain ⟨g4, rfl⟩ := bout hb; clear hb)
                )
              refine ⟨rfl, look_none us2 Hlook.out rfl ?_⟩
              repeat (first | exact Below.refl _ _ | exact HX.out | refine bG ?_ _ | refine bI ?_ _ _ | refine bA ?_ _ | refine bD ?_ | refine bN ?_ _)
          | true =>
            replace Hmore : Hid (∀ W', Below w.heap.size w W' → Calls Tryz.prog 94 #[.slice (some ⟨b, o, none⟩) L c, .agg #[.int .i64 (k : Int), .string text, .slice kp j kcap, .int .i64 place]] W' fun e w' => e = .returned (.tuple #[]) ∧ Below W'.heap.size W' w') := hid (Hmore.out rfl rfl)
            go_wp2
            refine wp_region_any (by kernel_rfl) ?_
            refine Am.any_cut _ 7 rfl (by kernel_rfl) ?_
            simp only [List.take_succ_cons, List.take_zero]
            refine Am.draw_phi_any (Φ := phiL (.slice (some ⟨b, o, none⟩) L c) (.slice kp j kcap) W.heap.size k fo) (w0 := (((rowed W U us2).alloc (.cells fa 85)).alloc (.cells #[.int .i64 k, .string text, .slice kp j kcap, .int .i64 place] 30))) (by kernel_rfl) (by kernel_rfl) phiL_below ?_ ?_ _ ((Below.refl _ _).drew)
            · intro kq o ca w1 ho hb hlook K hK
              have hc2 : w1.cell? ⟨W.heap.size + 1, 2, none⟩ = some (.slice kp j kcap) := (hb.cell (p := ⟨_, 2, none⟩) (by simp)).trans (by simp [go_sem])
              have hc0 : w1.cell? ⟨W.heap.size + 1, 0, none⟩ = some (.int .i64 k) := (hb.cell (p := ⟨_, 0, none⟩) (by simp)).trans (by simp [go_sem])
              have hcf : w1.cell? ⟨W.heap.size, k, none⟩ = some (str fo) := (hb.cell (p := ⟨_, k, none⟩) (by simp; omega)).trans (by simp [go_sem, hfk])
              have hk40 : (0 : Int) ≤ (k : Int) := by omega
              have hfn : ∀ f, ca.eval (.func f) = .func (.func f) #[] #[] := fun _ => rfl
              have hcs : ∀ v, ca.eval (.const v) = v := fun _ => rfl
              rcases kq with _ | _ | _ | _ | _ | _ | _ | kq
              · cases ho
                have h0 := Am.eval_tmp (Am.look_old (t := 0) hlook (by kernel_rfl) (by kernel_rfl) rfl)
                refine Am.wpOp_run rfl rfl (Am.wp_value (v := .slice (some ⟨b, o, none⟩) L c) ?_ (hK _ _ (Below.refl _ _) rfl))
                generalize ca.eval = ev at *
                simp [go_sem, execOp, hfn, hcs, h0]
              · cases ho
                have h8 := Am.eval_tmp (Am.look_old (t := 8) hlook (by kernel_rfl) (by kernel_rfl) rfl)
                refine Am.wpOp_run rfl rfl (Am.wp_value (v := .pointer (some ⟨W.heap.size + 1, 2, none⟩)) ?_ (hK _ _ (Below.refl _ _) rfl))
                generalize ca.eval = ev at *
                simp [go_sem, execOp, hfn, hcs, h8]
              · cases ho
                have h56 : (ca.tmps.getD 56 undef) = .pointer (some ⟨W.heap.size + 1, 2, none⟩) := Am.look_of (j := 1) hlook (by kernel_rfl) rfl rfl
                replace h56 := Am.eval_tmp h56
                refine Am.wpOp_run rfl rfl (Am.wp_value (v := .slice kp j kcap) ?_ (hK _ _ (Below.refl _ _) rfl))
                generalize ca.eval = ev at *
                simp [go_sem, execOp, hfn, hcs, h56, hc2]
              · cases ho
                have h8 := Am.eval_tmp (Am.look_old (t := 8) hlook (by kernel_rfl) (by kernel_rfl) rfl)
                refine Am.wpOp_run rfl rfl (Am.wp_value (v := .pointer (some ⟨W.heap.size + 1, 0, none⟩)) ?_ (hK _ _ (Below.refl _ _) rfl))
                generalize ca.eval = ev at *
                simp [go_sem, execOp, hfn, hcs, h8]
              · cases ho
                have h58 : (ca.tmps.getD 58 undef) = .pointer (some ⟨W.heap.size + 1, 0, none⟩) := Am.look_of (j := 3) hlook (by kernel_rfl) rfl rfl
                replace h58 := Am.eval_tmp h58
                refine Am.wpOp_run rfl rfl (Am.wp_value (v := .int .i64 k) ?_ (hK _ _ (Below.refl _ _) rfl))
                generalize ca.eval = ev at *
                simp [go_sem, execOp, hfn, hcs, h58, hc0]
              · cases ho
                have h7 := Am.eval_tmp (Am.look_old (t := 7) hlook (by kernel_rfl) (by kernel_rfl) rfl)
                have h59 : (ca.tmps.getD 59 undef) = .int .i64 k := Am.look_of (j := 4) hlook (by kernel_rfl) rfl rfl
                replace h59 := Am.eval_tmp h59
                refine Am.wpOp_run rfl rfl (Am.wp_value (v := .pointer (some ⟨W.heap.size, k, none⟩)) ?_ (hK _ _ (Below.refl _ _) rfl))
                generalize ca.eval = ev at *
                simp [go_sem, execOp, hfn, hcs, h7, h59, hk38, hk40]
              · cases ho
                have h60 : (ca.tmps.getD 60 undef) = .pointer (some ⟨W.heap.size, k, none⟩) := Am.look_of (j := 5) hlook (by kernel_rfl) rfl rfl
                replace h60 := Am.eval_tmp h60
                refine Am.wpOp_run rfl rfl (Am.wp_value (v := str fo) ?_ (hK _ _ (Below.refl _ _) rfl))
                generalize ca.eval = ev at *
                simp [go_sem, execOp, hfn, hcs, h60, hcf]
              · simp at ho
            · intro ca w1 hb hd hs hphi hoth
              have h55 : ca.tmps.getD 55 undef = .slice (some ⟨b, o, none⟩) L c := hphi 0 _ 55 rfl rfl
              have h57 : ca.tmps.getD 57 undef = .slice kp j kcap := hphi 2 _ 57 rfl rfl
              have h61 : ca.tmps.getD 61 undef = str fo := hphi 6 _ 61 rfl rfl
              have hca := Am.frame_out hd hs hoth
              simp only [List.foldl_cons, List.foldl_nil, h55, h57, h61] at hca
              generalize ca.tmps.getD 56 undef = x56 at hca
              generalize ca.tmps.getD 58 undef = x58 at hca
              generalize ca.tmps.getD 59 undef = x59 at hca
              generalize ca.tmps.getD 60 undef = x60 at hca
              subst hca
              simp only [List.setIfInBounds_toArray, List.set_cons_succ, List.set_cons_zero]
              obtain ⟨g1, rfl⟩ := bout hb
              clear hb hd hs hphi hoth h55 h57 h61
              simp only [Am.LastW]
              go_wp2_with (first
                | (go_at_call 92; ((with_reducible refine (Hfits.out _ (by repeat (first | exact Below.refl _ _ | exact HX.out | refine bG ?_ _ | refine bI ?_ _ _ | refine bA ?_ _ | refine bD ?_ | refine bN ?_ _))).mono ?_)); rintro e w' ⟨rfl, hb⟩; obtain ⟨g2, rfl⟩ := bout hb; clear hb)
                | (go_at_call 93; ((with_reducible refine (Hsays.out _ (by repeat (first | exact Below.refl _ _ | exact HX.out | refine bG ?_ _ | refine bI ?_ _ _ | refine bA ?_ _ | refine bD ?_ | refine bN ?_ _))).mono ?_)); rintro e w' ⟨rfl, hb⟩; obtain ⟨g3, rfl⟩ := bout hb; clear hb)
                | (go_at_call 91; ((with_reducible refine (must_yes _).mono ?_)); rintro e w' ⟨rfl, hw⟩; rw [hw]; clear hw w')
                | (go_at_call 94; ((with_reducible refine (Hmore.out _ (by repeat (first | exact Below.refl _ _ | exact HX.out | refine bG ?_ _ | refine bI ?_ _ _ | refine bA ?_ _ | refine bD ?_ | refine bN ?_ _))).mono ?_)); rintro e w' ⟨rfl, hb⟩; obtain ⟨g4, rfl⟩ := bout hb; clear hb)
                )
              go_end0
              have hb9 : Below (rowed W U us2).heap.size (rowed W U us2) (grow (((rowed W U us2).alloc (.cells fa 85)).alloc (.cells #[.int .i64 k, .string text, .slice kp j kcap, .int .i64 place] 30)) (((g1.app g2).app g3).app g4)) := by repeat (first | exact Below.refl _ _ | refine bG ?_ _ | refine bI ?_ _ _ | refine bA ?_ _ | refine bD ?_ | refine bN ?_ _)
              obtain ⟨g9, h9⟩ := bout hb9
              exact look_some (by rw [Hlook.out]; rfl) rfl g9 h9
end Go.Proofs.YtbgjanmheagilaaGreatDoor
