/- The reference's check of types, walked. Conditions: names of no monstrous size. -/
import Derived.Test.YtjchnliaglecoaaGreatDoorTm
import Derived.Test.YtjchnliaglecoaaGreatDoorCn
set_option linter.unusedVariables false
set_option linter.unusedSimpArgs false
namespace Go.Proofs.YtjchnliaglecoaaGreatDoor
open Go Go.RowKit Go.Nodes
set_option linter.unusedVariables false
set_option linter.unusedSimpArgs false
def SmallT : Nat → Sk → Prop
  | 0, _ => True
  | f + 1, .mk _ ns qs => (∀ s ∈ ns, s.size ≤ 140737488355328) ∧ ∀ T ∈ qs, SmallT f T
theorem ty_kind {W : World} {f : Nat} {k : Int} {np ap : Option Addr} {nn nc an ac : Nat} {T : Sk} (h : TyAt W f [.int .i64 k, .slice np nn nc, .slice ap an ac] T) : skK T = k ∧ (skN T).length = nn ∧ (skA T).length = an := by
  cases f with
  | zero => exact h.elim
  | succ f =>
    obtain ⟨k', ns, qs⟩ := T
    obtain ⟨_, _, _, np', nc', ap', ac', hv, _, _⟩ := h
    cases hv
    exact ⟨rfl, rfl, rfl⟩
theorem flat80 (k : Int) (w : World) : Calls Tryz.prog 80 #[.int .i64 k] w fun e w' => e = .returned (.bool (decide (0 ≤ k) && decide (k ≤ 7))) ∧ Below w.heap.size w w' := by
  by_cases h0 : 0 ≤ k
  · rw [decide_eq_true h0]
    go_enter Tryz.func80, Tryz.ntmps80
    go_wp2
    go_ret
    exact ⟨rfl, Below.refl _ _⟩
  · rw [decide_eq_false h0]
    go_enter Tryz.func80, Tryz.ntmps80
    go_wp2
    go_ret
    exact ⟨rfl, Below.refl _ _⟩
def ChkPost (W : World) (R : Option Int) (e : Ending) (w' : World) : Prop :=
  (∃ n b, e = .returned (.tuple #[.int .i64 n, .bool b]) ∧ b = R.isSome ∧ ∀ r, R = some r → n = r) ∧ Below W.heap.size W w'
set_option maxRecDepth 100000 in
set_option maxHeartbeats 4000000 in
theorem ck_flat (W : World) (k d m : Int) (np ap : Option Addr) (u nc v ac : Nat) (R : Option Int) (d0 : 0 ≤ d) (hd' : d ≤ 50) (m0 : 0 ≤ m) (hm' : m + 1 ≤ 10000) (p1 : (u : Int) ≤ 9223372036854775807) (p2 : (v : Int) ≤ 9223372036854775807)
    (hk6 : 0 ≤ k ∧ k ≤ 6) (hR : R = if u = 0 ∧ v = 0 then some (m + 1) else none) : Calls Tryz.prog 36 #[.agg #[.int .i64 k, .slice np u nc, .slice ap v ac], .int .i64 d, .int .i64 m] W (ChkPost W R) := by
  have hks : k = 0 ∨ k = 1 ∨ k = 2 ∨ k = 3 ∨ k = 4 ∨ k = 5 ∨ k = 6 := by omega
  by_cases hu0 : u = 0
  · subst hu0
    by_cases hv0 : v = 0
    · subst hv0
      rw [if_pos ⟨rfl, rfl⟩] at hR
      have HR := hid hR
      clear hR hk6
      rcases hks with rfl | rfl | rfl | rfl | rfl | rfl | rfl
      all_goals
        go_enter Tryz.func36, Tryz.ntmps36
        go_wp2
        go_quiet (fail)
        go_wp2
        go_ret2
        exact ⟨⟨_, true, rfl, by rw [HR.out]; rfl, by rw [HR.out]; intro r h; cases h; rfl⟩, by repeat (first | exact Below.refl _ _ | refine bN ?_ _ | refine bD ?_ | refine bG ?_ _ | refine bI ?_ _ _ | refine bA ?_ _)⟩
    · rw [if_neg (by omega)] at hR
      have HR := hid hR
      have hv1 : ((v : Int) == 0) = false := by simp; omega
      clear hR hk6 hv0
      rcases hks with rfl | rfl | rfl | rfl | rfl | rfl | rfl
      all_goals
        go_enter Tryz.func36, Tryz.ntmps36
        go_wp2
        go_quiet (fail)
        go_wp2
        go_ret2
        exact ⟨⟨_, false, rfl, by rw [HR.out]; rfl, by rw [HR.out]; intro r h; cases h⟩, by repeat (first | exact Below.refl _ _ | refine bN ?_ _ | refine bD ?_ | refine bG ?_ _ | refine bI ?_ _ _ | refine bA ?_ _)⟩
  · rw [if_neg (by omega)] at hR
    have HR := hid hR
    have hu1 : ((u : Int) == 0) = false := by simp; omega
    clear hR hk6 hu0
    rcases hks with rfl | rfl | rfl | rfl | rfl | rfl | rfl
    all_goals
      go_enter Tryz.func36, Tryz.ntmps36
      go_wp2
      go_quiet (fail)
      go_wp2
      go_ret2
      exact ⟨⟨_, false, rfl, by rw [HR.out]; rfl, by rw [HR.out]; intro r h; cases h⟩, by repeat (first | exact Below.refl _ _ | refine bN ?_ _ | refine bD ?_ | refine bG ?_ _ | refine bI ?_ _ _ | refine bA ?_ _)⟩
set_option maxRecDepth 100000 in
set_option maxHeartbeats 4000000 in
theorem ck_none (W : World) (k d m : Int) (np ap : Option Addr) (u nc v ac : Nat) (R : Option Int) (d0 : 0 ≤ d) (hd' : d ≤ 50) (m0 : 0 ≤ m) (hm' : m + 1 ≤ 10000) (p1 : (u : Int) ≤ 9223372036854775807) (p2 : (v : Int) ≤ 9223372036854775807)
    (hk : k < 0 ∨ 9 < k) (hR : R = none) : Calls Tryz.prog 36 #[.agg #[.int .i64 k, .slice np u nc, .slice ap v ac], .int .i64 d, .int .i64 m] W (ChkPost W R) := by
  have e0 : (k == 0) = false := by simp; omega
  have e1 : (k == 1) = false := by simp; omega
  have e2 : (k == 2) = false := by simp; omega
  have e3 : (k == 3) = false := by simp; omega
  have e4 : (k == 4) = false := by simp; omega
  have e5 : (k == 5) = false := by simp; omega
  have e6 : (k == 6) = false := by simp; omega
  have e7 : (k == 7) = false := by simp; omega
  have e8 : (k == 8) = false := by simp; omega
  have e9 : (k == 9) = false := by simp; omega
  have HR := hid hR
  clear hR hk
  go_enter Tryz.func36, Tryz.ntmps36
  go_wp2
  go_ret2
  exact ⟨⟨_, false, rfl, by rw [HR.out]; rfl, by rw [HR.out]; intro r h; cases h⟩, by repeat (first | exact Below.refl _ _ | refine bN ?_ _ | refine bD ?_ | refine bG ?_ _ | refine bI ?_ _ _ | refine bA ?_ _)⟩
set_option maxRecDepth 100000 in
set_option maxHeartbeats 4000000 in
theorem ck_deep (W : World) (k d m : Int) (np ap : Option Addr) (u nc v ac : Nat) (R : Option Int) (d0 : 0 ≤ d) (m0 : 0 ≤ m) (hm' : m ≤ 10006) (hdd : 50 < d ∨ 10000 < m + 1) (p1 : (u : Int) ≤ 9223372036854775807) (p2 : (v : Int) ≤ 9223372036854775807)
    (hR : R = none) : Calls Tryz.prog 36 #[.agg #[.int .i64 k, .slice np u nc, .slice ap v ac], .int .i64 d, .int .i64 m] W (ChkPost W R) := by
  have HR := hid hR
  clear hR
  by_cases hd : 50 < d
  · clear hdd
    go_enter Tryz.func36, Tryz.ntmps36
    go_wp2
    go_ret2
    exact ⟨⟨_, false, rfl, by rw [HR.out]; rfl, by rw [HR.out]; intro r h; cases h⟩, by repeat (first | exact Below.refl _ _ | refine bN ?_ _ | refine bD ?_ | refine bG ?_ _ | refine bI ?_ _ _ | refine bA ?_ _)⟩
  · have hm : 10000 < m + 1 := by omega
    clear hdd
    go_enter Tryz.func36, Tryz.ntmps36
    go_wp2
    go_ret2
    exact ⟨⟨_, false, rfl, by rw [HR.out]; rfl, by rw [HR.out]; intro r h; cases h⟩, by repeat (first | exact Below.refl _ _ | refine bN ?_ _ | refine bD ?_ | refine bG ?_ _ | refine bI ?_ _ _ | refine bA ?_ _)⟩
end Go.Proofs.YtjchnliaglecoaaGreatDoor

/- The reference's check of unions, walked. Conditions: none. -/
namespace Go.Proofs.YtjchnliaglecoaaGreatDoor
open Go Go.RowKit Go.Nodes
set_option linter.unusedVariables false
set_option linter.unusedSimpArgs false
set_option maxRecDepth 100000 in
set_option maxHeartbeats 4000000 in
theorem ck_union (W : World) (k d m : Int) (np ap : Option Addr) (u nc v ac : Nat) (R : Option Int) (d0 : 0 ≤ d) (hd' : d ≤ 50) (m0 : 0 ≤ m) (hm' : m + 1 ≤ 10000) (p1 : (u : Int) ≤ 9223372036854775807) (p2 : (v : Int) ≤ 9223372036854775807)
    (f : Nat) (qs : List Sk) (Ha : Hid (RowOf W 3 (TyAt W f) ap qs)) (Hv : Hid (v = qs.length)) (hk : k = 7) (hR : R = if unionB d qs = true ∧ u = 0 ∧ 2 ≤ v then some (m + 1 + v) else none) : Calls Tryz.prog 36 #[.agg #[.int .i64 k, .slice np u nc, .slice ap v ac], .int .i64 d, .int .i64 m] W (ChkPost W R) := by
  subst hk
  have HR := hid hR
  clear hR
  have Hno : Hid (∀ i, i < v → unionAt d qs i = false → R = none) := hid fun i hi h => by
    rw [HR.out, if_neg]
    intro h2
    have h3 := h2.1
    unfold unionB at h3
    rw [all_not (by have := Hv.out; omega) h] at h3
    cases h3
  have Hyes : Hid ((∀ j, j < v → unionAt d qs j = true) → R = if u = 0 ∧ 2 ≤ v then some (m + 1 + v) else none) := hid fun h => by
    have h3 : unionB d qs = true := all_yes (by rw [← Hv.out]; exact h)
    rw [HR.out, h3]
    simp
  clear HR
  go_enter Tryz.func36, Tryz.ntmps36
  go_wp2
  go_loopw [2, 8, 53] (fun mv lv iv wr => ∃ (i : Nat) (G : Gro), i ≤ v ∧ iv = .int .i64 i ∧ mv = .int .i64 (m + 1 + i) ∧ lv = .int .i64 (lastK qs i) ∧ wr = grow (W.alloc (.cells #[.int .i64 7, .slice np u nc, .slice ap v ac] 39)) G ∧ Hid (∀ j, j < i → unionAt d qs j = true)) (fun _ _ iv _ => v - (intOf iv).toNat)
  case atStart => exact ⟨0, _, Nat.zero_le _, rfl, by simp, rfl, below_grow2 (Below.refl _ _), hid (fun j h => by omega)⟩
  case round =>
    obtain ⟨i, G, hi, rfl, rfl, rfl, rfl, hI⟩ := hrel
    have hlk := lastK_ge hI.out
    by_cases hin : i < v
    · have hix : i < qs.length := by have := Hv.out; omega
      have i0 : (0 : Int) ≤ (i : Int) := by omega
      have i1 : (i : Int) < (v : Int) := by omega
      obtain ⟨b1, o1, k2, np2, nn2, nc2, ap2, an2, ac2, rfl, hb1, c0, c1, c2, hT⟩ := ty_cells Ha.out hix
      obtain ⟨t1, t2, t3⟩ := ty_kind hT
      rw [← argAt_of hix] at t1 t2 t3
      obtain ⟨lk, hlk2⟩ : ∃ lk, lastK qs i = lk := ⟨_, rfl⟩
      have Hat : Hid (unionAt d qs i = (decide (d < 50) && decide (lk < k2) && decide (k2 ≤ 6) && decide (nn2 = 0) && decide (an2 = 0))) := hid (by unfold unionAt; rw [hlk2, t1, t2, t3])
      have hi6 : (i : Int) ≤ 6 := by omega
      have Hlast : Hid (lastK qs (i + 1) = k2) := hid (by unfold lastK; rw [if_neg (by omega)]; exact t1)
      rw [hlk2] at hlk ⊢
      clear hT t1 t2 t3 hlk2
      by_cases c1' : 50 ≤ d
      · have hno := hid (Hno.out i (by omega) (by rw [Hat.out, decide_eq_false (by omega)]; rfl))
        go_wp2
        go_ret2
        exact ⟨⟨_, false, rfl, by rw [hno.out]; rfl, by rw [hno.out]; intro r h; cases h⟩, by repeat (first | exact Below.refl _ _ | refine bN ?_ _ | refine bD ?_ | refine bG ?_ _ | refine bI ?_ _ _ | refine bA ?_ _)⟩
      have c1'' : d < 50 := by omega
      by_cases c2' : k2 ≤ lk
      · have hno := hid (Hno.out i (by omega) (by rw [Hat.out, decide_eq_false (p := lk < k2) (by omega)]; simp))
        clear c1'
        go_wp2
        go_ret2
        exact ⟨⟨_, false, rfl, by rw [hno.out]; rfl, by rw [hno.out]; intro r h; cases h⟩, by repeat (first | exact Below.refl _ _ | refine bN ?_ _ | refine bD ?_ | refine bG ?_ _ | refine bI ?_ _ _ | refine bA ?_ _)⟩
      by_cases c3' : 6 < k2
      · have hno := hid (Hno.out i (by omega) (by rw [Hat.out, decide_eq_false (p := k2 ≤ 6) (by omega)]; simp))
        clear c1'
        go_wp2
        go_ret2
        exact ⟨⟨_, false, rfl, by rw [hno.out]; rfl, by rw [hno.out]; intro r h; cases h⟩, by repeat (first | exact Below.refl _ _ | refine bN ?_ _ | refine bD ?_ | refine bG ?_ _ | refine bI ?_ _ _ | refine bA ?_ _)⟩
      by_cases c4' : 0 < nn2
      · have hno := hid (Hno.out i (by omega) (by rw [Hat.out, decide_eq_false (p := nn2 = 0) (by omega)]; simp))
        have c4i : (0 : Int) < (nn2 : Int) := by omega
        clear c1'
        go_wp2
        go_ret2
        exact ⟨⟨_, false, rfl, by rw [hno.out]; rfl, by rw [hno.out]; intro r h; cases h⟩, by repeat (first | exact Below.refl _ _ | refine bN ?_ _ | refine bD ?_ | refine bG ?_ _ | refine bI ?_ _ _ | refine bA ?_ _)⟩
      obtain rfl : nn2 = 0 := by omega
      by_cases c5' : 0 < an2
      · have hno := hid (Hno.out i (by omega) (by rw [Hat.out, decide_eq_false (p := an2 = 0) (by omega)]; simp))
        have c5i : (0 : Int) < (an2 : Int) := by omega
        clear c1'
        go_wp2
        go_ret2
        exact ⟨⟨_, false, rfl, by rw [hno.out]; rfl, by rw [hno.out]; intro r h; cases h⟩, by repeat (first | exact Below.refl _ _ | refine bN ?_ _ | refine bD ?_ | refine bG ?_ _ | refine bI ?_ _ _ | refine bA ?_ _)⟩
      obtain rfl : an2 = 0 := by omega
      have hyes := hid (show unionAt d qs i = true by rw [Hat.out, decide_eq_true c1'', decide_eq_true (show lk < k2 by omega), decide_eq_true (show k2 ≤ 6 by omega)]; rfl)
      clear c1' Hat
      go_wp2
      go_roundw
      case rel => exact ⟨i + 1, _, by omega, by go_num, by go_num, by rw [Hlast.out], below_grow2 (by repeat (first | exact Below.refl _ _ | refine bN ?_ _ | refine bD ?_ | refine bG ?_ _ | refine bI ?_ _ _ | refine bA ?_ _)), hid (fun j hj => by
        rcases Nat.lt_or_ge j i with h | h
        · exact hI.out j h
        · obtain rfl : j = i := by omega
          exact hyes.out)⟩
      case measure => simp [intOf]; omega
    · obtain rfl : i = v := by omega
      have hR := Hyes.out hI.out
      have hi6 : (i : Int) ≤ 6 := by omega
      by_cases hu0 : u = 0
      · subst hu0
        have HR := hid hR
        clear hR hlk
        go_wp2
        go_quiet (fail)
        go_wp2
        go_ret2
        refine ⟨⟨_, decide ((2 : Int) ≤ (i : Int)), rfl, ?_, ?_⟩, by repeat (first | exact Below.refl _ _ | refine bN ?_ _ | refine bD ?_ | refine bG ?_ _ | refine bI ?_ _ _ | refine bA ?_ _)⟩
        · rw [HR.out]
          by_cases h2 : 2 ≤ i <;> simp [h2] <;> omega
        · rw [HR.out]
          intro r h
          by_cases h2 : 2 ≤ i
          · simp [h2] at h; exact h
          · simp [h2] at h
      · rw [if_neg (by omega)] at hR
        have HR := hid hR
        have hu1 : ((u : Int) == 0) = false := by simp; omega
        clear hR hlk hu0
        go_wp2
        go_quiet (fail)
        go_wp2
        go_ret2
        exact ⟨⟨_, false, rfl, by rw [HR.out]; rfl, by rw [HR.out]; intro r h; cases h⟩, by repeat (first | exact Below.refl _ _ | refine bN ?_ _ | refine bD ?_ | refine bG ?_ _ | refine bI ?_ _ _ | refine bA ?_ _)⟩
end Go.Proofs.YtjchnliaglecoaaGreatDoor

/- The reference's check of shapes, walked. Conditions: names of no monstrous size. -/
namespace Go.Proofs.YtjchnliaglecoaaGreatDoor
open Go Go.RowKit Go.Nodes
set_option linter.unusedVariables false
set_option linter.unusedSimpArgs false
set_option maxRecDepth 100000 in
set_option maxHeartbeats 4000000 in
theorem ck_shape (W : World) (k d m : Int) (np ap : Option Addr) (u nc v ac : Nat) (R : Option Int) (d0 : 0 ≤ d) (hd' : d ≤ 50) (m0 : 0 ≤ m) (hm' : m + 1 ≤ 10000) (p1 : (u : Int) ≤ 9223372036854775807) (p2 : (v : Int) ≤ 9223372036854775807)
    (f : Nat) (ns : List ByteArray) (qs : List Sk) (Hn : Hid (RowOf W 1 textE np ns)) (Ha : Hid (RowOf W 3 (TyAt W f) ap qs)) (Hu : Hid (u = ns.length)) (Hv : Hid (v = qs.length)) (Hs1 : Hid (∀ s ∈ ns, s.size ≤ 140737488355328)) (Hs : Hid (∀ T ∈ qs, SmallT f T))
    (Hih : Hid (∀ W', Below W.heap.size W W' → ∀ va T d m, TyAt W f va T → SmallT f T → 0 ≤ d → d ≤ 51 → 0 ≤ m → m ≤ 10006 → Calls Tryz.prog 36 #[.agg va.toArray, .int .i64 d, .int .i64 m] W' (ChkPost W' (chk f T d m))))
    (hk : k = 8) (hR : R = if u = v ∧ shapeB ns qs = true then chkL (fun T m => chk f T (d + 1) m) qs (m + 1) else none) : Calls Tryz.prog 36 #[.agg #[.int .i64 k, .slice np u nc, .slice ap v ac], .int .i64 d, .int .i64 m] W (ChkPost W R) := by
  subst hk
  by_cases huv : u = v
  · subst huv
    have Hno : Hid (∀ i, i < u → shapeAt ns qs i = false → R = none) := hid fun i hi h => by
      rw [hR, if_neg]
      intro h2
      have h3 := h2.2
      unfold shapeB at h3
      rw [all_not (by have := Hu.out; omega) h] at h3
      cases h3
    have Hyes : Hid ((∀ j, j < u → shapeAt ns qs j = true) → chkL (fun T m => chk f T (d + 1) m) qs (m + 1) = R) := hid fun h => by
      have h3 : shapeB ns qs = true := all_yes (by rw [← Hu.out]; exact h)
      rw [hR, if_pos ⟨rfl, h3⟩]
    clear hR
    go_enter Tryz.func36, Tryz.ntmps36
    go_wp2
    go_loopw [112] (fun iv wr => ∃ (i : Nat) (G : Gro), i ≤ u ∧ iv = .int .i64 i ∧ wr = grow (W.alloc (.cells #[.int .i64 8, .slice np u nc, .slice ap u ac] 39)) G ∧ Hid (∀ j, j < i → shapeAt ns qs j = true)) (fun iv _ => u - (intOf iv).toNat)
    case atStart => exact ⟨0, _, Nat.zero_le _, rfl, below_grow2 (Below.refl _ _), hid (fun j h => by omega)⟩
    case round =>
      obtain ⟨i, G, hi, rfl, rfl, hI⟩ := hrel
      by_cases hin : i < u
      · have hix : i < ns.length := by have := Hu.out; omega
        have hiq : i < qs.length := by have := Hv.out; omega
        have i0 : (0 : Int) ≤ (i : Int) := by omega
        have i1 : (i : Int) < (u : Int) := by omega
        obtain ⟨b1, o1, k2, np2, nn2, nc2, ap2, an2, ac2, rfl, hb1, c0, c1, c2, hT⟩ := ty_cells Ha.out hiq
        obtain ⟨t1, _, _⟩ := ty_kind hT
        obtain ⟨bn, on, x, hx, rfl, hbn, cn⟩ := text_cells Hn.out hix
        rw [← argAt_of hiq] at t1
        rw [← nameAt_of hix] at hx
        have hxs : x.size ≤ 140737488355328 := by rw [← hx, nameAt_of hix]; exact Hs1.out _ (List.getElem_mem hix)
        have HN : Hid (∀ w', Calls Tryz.prog 79 #[.string x] w' fun e w2 => e = .returned (.bool (nameS x.data.toList)) ∧ Below w'.heap.size w' w2) := hid fun w' => rname_any x hxs w'
        have Hat : Hid (shapeAt ns qs i = (nameS x.data.toList && (i == 0 || !leT x (nameAt ns (i - 1))) && (decide (0 ≤ k2) && decide (k2 ≤ 7)))) := hid (by unfold shapeAt; rw [t1, hx])
        have HF := hid (flat80 k2)
        generalize nameS x.data.toList = nb at *
        obtain ⟨fb, hfb⟩ : ∃ fb, (decide (0 ≤ k2) && decide (k2 ≤ 7)) = fb := ⟨_, rfl⟩
        rw [hfb] at Hat HF
        clear hT t1 hx hxs hfb c1 c2
        cases nb with
        | false =>
          have hno := hid (Hno.out i hin (by rw [Hat.out]; rfl))
          clear Hat
          go_wp2_with (go_at_call 79; refine (HN.out _).mono ?_; rintro e w' ⟨rfl, hb⟩; obtain ⟨G3, rfl⟩ := bout hb; clear hb)
          go_ret2
          exact ⟨⟨_, false, rfl, by rw [hno.out]; rfl, by rw [hno.out]; intro r h; cases h⟩, by repeat (first | exact Below.refl _ _ | refine bN ?_ _ | refine bD ?_ | refine bG ?_ _ | refine bI ?_ _ _ | refine bA ?_ _)⟩
        | true =>
          rcases Nat.eq_zero_or_pos i with hz0 | hpos
          · have hz1 : ¬ (0 : Int) < (i : Int) := by omega
            have Hz := hid hz0
            clear hz0
            cases fb with
            | false =>
              have hno := hid (Hno.out i hin (by rw [Hat.out]; simp))
              clear Hat
              go_wp2_with (first
                | (go_at_call 79; refine (HN.out _).mono ?_; rintro e w' ⟨rfl, hb⟩; obtain ⟨G3, rfl⟩ := bout hb; clear hb)
                | (go_at_call 80; refine (HF.out _).mono ?_; rintro e w' ⟨rfl, hb⟩; obtain ⟨G4, rfl⟩ := bout hb; clear hb))
              go_ret2
              exact ⟨⟨_, false, rfl, by rw [hno.out]; rfl, by rw [hno.out]; intro r h; cases h⟩, by repeat (first | exact Below.refl _ _ | refine bN ?_ _ | refine bD ?_ | refine bG ?_ _ | refine bI ?_ _ _ | refine bA ?_ _)⟩
            | true =>
              have hyes := hid (show shapeAt ns qs i = true by rw [Hat.out, Hz.out]; rfl)
              clear Hat
              go_wp2_with (first
                | (go_at_call 79; refine (HN.out _).mono ?_; rintro e w' ⟨rfl, hb⟩; obtain ⟨G3, rfl⟩ := bout hb; clear hb)
                | (go_at_call 80; refine (HF.out _).mono ?_; rintro e w' ⟨rfl, hb⟩; obtain ⟨G4, rfl⟩ := bout hb; clear hb))
              go_roundw
              case rel => exact ⟨i + 1, _, by omega, by go_num, below_grow2 (by repeat (first | exact Below.refl _ _ | refine bN ?_ _ | refine bD ?_ | refine bG ?_ _ | refine bI ?_ _ _ | refine bA ?_ _)), hid (fun j hj => by
                have := Hz.out
                obtain rfl : j = i := by omega
                exact hyes.out)⟩
              case measure => simp [intOf]; omega
          · have hpx : i - 1 < ns.length := by omega
            obtain ⟨bn', on', y, hy, hbe, hbn', cy⟩ := text_cells Hn.out hpx
            cases hbe
            rw [← nameAt_of hpx] at hy
            rw [hy] at Hat
            have hcy : ((i : Int) - 1) = ((i - 1 : Nat) : Int) := by omega
            obtain ⟨j, rfl⟩ : ∃ j, i = j + 1 := ⟨i - 1, by omega⟩
            have cy2 : W.cell? ⟨bn, on + j, none⟩ = some (.string y) := by simpa using cy
            have j0 : (0 : Int) ≤ (j : Int) := by omega
            have j1 : (j : Int) < (u : Int) := by omega
            have jj : (((j + 1 : Nat) : Int) - 1) = (j : Int) := by omega
            have jp : (0 : Int) < ((j + 1 : Nat) : Int) := by omega
            unfold leT at Hat
            obtain ⟨lb, hlb⟩ : ∃ lb, (Op.bytesLess x.toList y.toList || x.toList == y.toList) = lb := ⟨_, rfl⟩
            rw [hlb] at Hat
            clear hy cy hcy hpos hpx hbn'
            cases lb with
            | true =>
              have hno := hid (Hno.out _ hin (by rw [Hat.out]; simp))
              clear Hat
              go_wp2_with (first
                | (go_at_call 79; refine (HN.out _).mono ?_; rintro e w' ⟨rfl, hb⟩; obtain ⟨G3, rfl⟩ := bout hb; clear hb))
              go_ret2
              exact ⟨⟨_, false, rfl, by rw [hno.out]; rfl, by rw [hno.out]; intro r h; cases h⟩, by repeat (first | exact Below.refl _ _ | refine bN ?_ _ | refine bD ?_ | refine bG ?_ _ | refine bI ?_ _ _ | refine bA ?_ _)⟩
            | false =>
              cases fb with
              | false =>
                have hno := hid (Hno.out _ hin (by rw [Hat.out]; simp))
                clear Hat
                go_wp2_with (first
                  | (go_at_call 79; refine (HN.out _).mono ?_; rintro e w' ⟨rfl, hb⟩; obtain ⟨G3, rfl⟩ := bout hb; clear hb)
                  | (go_at_call 80; refine (HF.out _).mono ?_; rintro e w' ⟨rfl, hb⟩; obtain ⟨G4, rfl⟩ := bout hb; clear hb))
                go_ret2
                exact ⟨⟨_, false, rfl, by rw [hno.out]; rfl, by rw [hno.out]; intro r h; cases h⟩, by repeat (first | exact Below.refl _ _ | refine bN ?_ _ | refine bD ?_ | refine bG ?_ _ | refine bI ?_ _ _ | refine bA ?_ _)⟩
              | true =>
                have hyes := hid (show shapeAt ns qs (j + 1) = true by rw [Hat.out]; simp)
                clear Hat
                go_wp2_with (first
                  | (go_at_call 79; refine (HN.out _).mono ?_; rintro e w' ⟨rfl, hb⟩; obtain ⟨G3, rfl⟩ := bout hb; clear hb)
                  | (go_at_call 80; refine (HF.out _).mono ?_; rintro e w' ⟨rfl, hb⟩; obtain ⟨G4, rfl⟩ := bout hb; clear hb))
                go_roundw
                case rel => exact ⟨j + 1 + 1, _, by omega, by go_num, below_grow2 (by repeat (first | exact Below.refl _ _ | refine bN ?_ _ | refine bD ?_ | refine bG ?_ _ | refine bI ?_ _ _ | refine bA ?_ _)), hid (fun l hl => by
                  rcases Nat.lt_or_ge l (j + 1) with h | h
                  · exact hI.out l h
                  · obtain rfl : l = j + 1 := by omega
                    exact hyes.out)⟩
                case measure => simp [intOf]; omega
      · obtain rfl : i = u := by omega
        have HL := hid (Hyes.out hI.out)
        clear Hno Hyes hI
        go_wp2
        go_loopw [2, 162] (fun mv iv wr => ∃ (z : Nat) (c : Int) (G : Gro), z ≤ i ∧ iv = .int .i64 z ∧ mv = .int .i64 c ∧ wr = grow (W.alloc (.cells #[.int .i64 8, .slice np i nc, .slice ap i ac] 39)) G ∧ Hid (chkL (fun T m => chk f T (d + 1) m) (qs.drop z) c = R) ∧ 0 ≤ c ∧ c ≤ 10006) (fun _ iv _ => i - (intOf iv).toNat)
        case atStart => exact ⟨0, m + 1, G, Nat.zero_le _, rfl, rfl, rfl, hid HL.out, by omega, by omega⟩
        case round =>
          obtain ⟨z, c, G2, hi, rfl, rfl, rfl, hI, hc0, hc1⟩ := hrel
          by_cases hin : z < i
          · have hix : z < qs.length := by have := Hv.out; omega
            have i0 : (0 : Int) ≤ (z : Int) := by omega
            have i1 : (z : Int) < (i : Int) := by omega
            obtain ⟨b1, o1, k2, np2, nn2, nc2, ap2, an2, ac2, rfl, hb1, c0, c1, c2, hT⟩ := ty_cells Ha.out hix
            have Hd := hid (chkL_drop (fun T m => chk f T (d + 1) m) qs z hix c)
            rw [hI.out] at Hd
            have Hle := hid (fun (r : Int) (h : chk f qs[z] (d + 1) c = some r) => (chk_le f qs[z] (d + 1) c r h).2)
            have Hge := hid (fun (r : Int) (h : chk f qs[z] (d + 1) c = some r) => (chk_le f qs[z] (d + 1) c r h).1)
            have Hc : Hid (∀ W', Below W.heap.size W W' → Calls Tryz.prog 36 #[.agg #[.int .i64 k2, .slice np2 nn2 nc2, .slice ap2 an2 ac2], .int .i64 (d + 1), .int .i64 c] W' (ChkPost W' (chk f qs[z] (d + 1) c))) := hid fun W' hb => Hih.out W' hb _ _ _ _ hT (Hs.out _ (List.getElem_mem hix)) (by omega) (by omega) hc0 hc1
            generalize chk f qs[z] (d + 1) c = q at *
            clear hT hI hi
            unfold ChkPost at Hc
            cases q with
            | none =>
              have hno : Hid (R = none) := hid Hd.out
              clear Hd Hle Hge
              go_wp2_with (go_at_call 36; refine (Hc.out _ (by repeat (first | exact Below.refl _ _ | refine bN ?_ _ | refine bD ?_ | refine bG ?_ _ | refine bI ?_ _ _ | refine bA ?_ _))).mono ?_; rintro e w' ⟨⟨n, b, rfl, rfl, _⟩, hb⟩; obtain ⟨G3, rfl⟩ := bout hb; clear hb)
              go_ret2
              exact ⟨⟨_, false, rfl, by rw [hno.out]; rfl, by rw [hno.out]; intro r h; cases h⟩, by repeat (first | exact Below.refl _ _ | refine bN ?_ _ | refine bD ?_ | refine bG ?_ _ | refine bI ?_ _ _ | refine bA ?_ _)⟩
            | some n =>
              have hle := Hle.out n rfl
              have hge := Hge.out n rfl
              clear Hle Hge
              go_wp2_with (go_at_call 36; refine (Hc.out _ (by repeat (first | exact Below.refl _ _ | refine bN ?_ _ | refine bD ?_ | refine bG ?_ _ | refine bI ?_ _ _ | refine bA ?_ _))).mono ?_; rintro e w' ⟨⟨n2, b, rfl, rfl, hn2⟩, hb⟩; obtain rfl : n2 = n := hn2 n rfl; obtain ⟨G3, rfl⟩ := bout hb; clear hb hn2)
              go_roundw
              case rel => exact ⟨z + 1, n2, _, by omega, by go_num, rfl, below_grow2 (by repeat (first | exact Below.refl _ _ | refine bN ?_ _ | refine bD ?_ | refine bG ?_ _ | refine bI ?_ _ _ | refine bA ?_ _)), hid Hd.out.symm, by omega, by omega⟩
              case measure => simp [intOf]; omega
          · obtain rfl : z = i := by omega
            have h2 : some c = R := by have := hI.out; rw [List.drop_of_length_le (by have := Hv.out; omega)] at this; exact this
            have H2 := hid h2
            clear h2 hI hi hin
            go_wp2
            go_ret2
            exact ⟨⟨_, true, rfl, by rw [← H2.out]; rfl, by rw [← H2.out]; intro r h; cases h; rfl⟩, by repeat (first | exact Below.refl _ _ | refine bN ?_ _ | refine bD ?_ | refine bG ?_ _ | refine bI ?_ _ _ | refine bA ?_ _)⟩
  · rw [if_neg (by omega)] at hR
    have HR := hid hR
    have hu1 : ((u : Int) != (v : Int)) = true := by simp; omega
    clear hR huv
    go_enter Tryz.func36, Tryz.ntmps36
    go_wp2
    go_ret2
    exact ⟨⟨_, false, rfl, by rw [HR.out]; rfl, by rw [HR.out]; intro r h; cases h⟩, by repeat (first | exact Below.refl _ _ | refine bN ?_ _ | refine bD ?_ | refine bG ?_ _ | refine bI ?_ _ _ | refine bA ?_ _)⟩
end Go.Proofs.YtjchnliaglecoaaGreatDoor

/- The reference's check of functions' types, walked. Conditions: none. -/
namespace Go.Proofs.YtjchnliaglecoaaGreatDoor
open Go Go.RowKit Go.Nodes
set_option linter.unusedVariables false
set_option linter.unusedSimpArgs false
set_option maxRecDepth 100000 in
set_option maxHeartbeats 4000000 in
theorem ck_func (W : World) (k d m : Int) (np ap : Option Addr) (u nc v ac : Nat) (R : Option Int) (d0 : 0 ≤ d) (hd' : d ≤ 50) (m0 : 0 ≤ m) (hm' : m + 1 ≤ 10000) (p1 : (u : Int) ≤ 9223372036854775807) (p2 : (v : Int) ≤ 9223372036854775807)
    (f : Nat) (ns : List ByteArray) (qs : List Sk) (Hn : Hid (RowOf W 1 textE np ns)) (Ha : Hid (RowOf W 3 (TyAt W f) ap qs)) (Hu : Hid (u = ns.length)) (Hv : Hid (v = qs.length)) (Hs1 : Hid (∀ s ∈ ns, s.size ≤ 140737488355328)) (Hs : Hid (∀ T ∈ qs, SmallT f T))
    (Hih : Hid (∀ W', Below W.heap.size W W' → ∀ va T d m, TyAt W f va T → SmallT f T → 0 ≤ d → d ≤ 51 → 0 ≤ m → m ≤ 10006 → Calls Tryz.prog 36 #[.agg va.toArray, .int .i64 d, .int .i64 m] W' (ChkPost W' (chk f T d m))))
    (hk : k = 9) (hR : R = if u = 0 ∧ v ≠ 0 then chkL (fun T m => chk f T (d + 1) m) qs (m + 1) else none) : Calls Tryz.prog 36 #[.agg #[.int .i64 k, .slice np u nc, .slice ap v ac], .int .i64 d, .int .i64 m] W (ChkPost W R) := by
  subst hk
  by_cases hu0 : u = 0
  · subst hu0
    by_cases hv0 : v = 0
    · subst hv0
      rw [if_neg (by omega)] at hR
      have HR := hid hR
      clear hR
      go_enter Tryz.func36, Tryz.ntmps36
      go_wp2
      go_ret2
      exact ⟨⟨_, false, rfl, by rw [HR.out]; rfl, by rw [HR.out]; intro r h; cases h⟩, by repeat (first | exact Below.refl _ _ | refine bN ?_ _ | refine bD ?_ | refine bG ?_ _ | refine bI ?_ _ _ | refine bA ?_ _)⟩
    · rw [if_pos ⟨rfl, hv0⟩] at hR
      have HL := hid hR.symm
      have hv1 : ((v : Int) == 0) = false := by simp; omega
      clear hR hv0
      go_enter Tryz.func36, Tryz.ntmps36
      go_wp2
      go_loopw [2, 162] (fun mv iv wr => ∃ (i : Nat) (c : Int) (G : Gro), i ≤ v ∧ iv = .int .i64 i ∧ mv = .int .i64 c ∧ wr = grow (W.alloc (.cells #[.int .i64 9, .slice np 0 nc, .slice ap v ac] 39)) G ∧ Hid (chkL (fun T m => chk f T (d + 1) m) (qs.drop i) c = R) ∧ 0 ≤ c ∧ c ≤ 10006) (fun _ iv _ => v - (intOf iv).toNat)
      case atStart => exact ⟨0, m + 1, _, Nat.zero_le _, rfl, rfl, below_grow2 (Below.refl _ _), hid HL.out, by omega, by omega⟩
      case round =>
        obtain ⟨i, c, G2, hi, rfl, rfl, rfl, hI, hc0, hc1⟩ := hrel
        by_cases hin : i < v
        · have hix : i < qs.length := by have := Hv.out; omega
          have i0 : (0 : Int) ≤ (i : Int) := by omega
          have i1 : (i : Int) < (v : Int) := by omega
          obtain ⟨b1, o1, k2, np2, nn2, nc2, ap2, an2, ac2, rfl, hb1, c0, c1, c2, hT⟩ := ty_cells Ha.out hix
          have Hd := hid (chkL_drop (fun T m => chk f T (d + 1) m) qs i hix c)
          rw [hI.out] at Hd
          have Hle := hid (fun (r : Int) (h : chk f qs[i] (d + 1) c = some r) => (chk_le f qs[i] (d + 1) c r h).2)
          have Hge := hid (fun (r : Int) (h : chk f qs[i] (d + 1) c = some r) => (chk_le f qs[i] (d + 1) c r h).1)
          have Hc : Hid (∀ W', Below W.heap.size W W' → Calls Tryz.prog 36 #[.agg #[.int .i64 k2, .slice np2 nn2 nc2, .slice ap2 an2 ac2], .int .i64 (d + 1), .int .i64 c] W' (ChkPost W' (chk f qs[i] (d + 1) c))) := hid fun W' hb => Hih.out W' hb _ _ _ _ hT (Hs.out _ (List.getElem_mem hix)) (by omega) (by omega) hc0 hc1
          generalize chk f qs[i] (d + 1) c = q at *
          clear hT hI hi
          unfold ChkPost at Hc
          cases q with
          | none =>
            have hno : Hid (R = none) := hid Hd.out
            clear Hd Hle Hge
            go_wp2_with (go_at_call 36; refine (Hc.out _ (by repeat (first | exact Below.refl _ _ | refine bN ?_ _ | refine bD ?_ | refine bG ?_ _ | refine bI ?_ _ _ | refine bA ?_ _))).mono ?_; rintro e w' ⟨⟨n, b, rfl, rfl, _⟩, hb⟩; obtain ⟨G3, rfl⟩ := bout hb; clear hb)
            go_ret2
            exact ⟨⟨_, false, rfl, by rw [hno.out]; rfl, by rw [hno.out]; intro r h; cases h⟩, by repeat (first | exact Below.refl _ _ | refine bN ?_ _ | refine bD ?_ | refine bG ?_ _ | refine bI ?_ _ _ | refine bA ?_ _)⟩
          | some n =>
            have hle := Hle.out n rfl
            have hge := Hge.out n rfl
            clear Hle Hge
            go_wp2_with (go_at_call 36; refine (Hc.out _ (by repeat (first | exact Below.refl _ _ | refine bN ?_ _ | refine bD ?_ | refine bG ?_ _ | refine bI ?_ _ _ | refine bA ?_ _))).mono ?_; rintro e w' ⟨⟨n2, b, rfl, rfl, hn2⟩, hb⟩; obtain rfl : n2 = n := hn2 n rfl; obtain ⟨G3, rfl⟩ := bout hb; clear hb hn2)
            go_roundw
            case rel => exact ⟨i + 1, n2, _, by omega, by go_num, rfl, below_grow2 (by repeat (first | exact Below.refl _ _ | refine bN ?_ _ | refine bD ?_ | refine bG ?_ _ | refine bI ?_ _ _ | refine bA ?_ _)), hid Hd.out.symm, by omega, by omega⟩
            case measure => simp [intOf]; omega
        · obtain rfl : i = v := by omega
          have h2 : some c = R := by have := hI.out; rw [List.drop_of_length_le (by have := Hv.out; omega)] at this; exact this
          have H2 := hid h2
          clear h2 hI hi hin
          go_wp2
          go_ret2
          exact ⟨⟨_, true, rfl, by rw [← H2.out]; rfl, by rw [← H2.out]; intro r h; cases h; rfl⟩, by repeat (first | exact Below.refl _ _ | refine bN ?_ _ | refine bD ?_ | refine bG ?_ _ | refine bI ?_ _ _ | refine bA ?_ _)⟩
  · rw [if_neg (by omega)] at hR
    have HR := hid hR
    have hu1 : (0 : Int) < (u : Int) := by omega
    clear hR hu0
    go_enter Tryz.func36, Tryz.ntmps36
    go_wp2
    go_ret2
    exact ⟨⟨_, false, rfl, by rw [HR.out]; rfl, by rw [HR.out]; intro r h; cases h⟩, by repeat (first | exact Below.refl _ _ | refine bN ?_ _ | refine bD ?_ | refine bG ?_ _ | refine bI ?_ _ _ | refine bA ?_ _)⟩
end Go.Proofs.YtjchnliaglecoaaGreatDoor

/- The reference's check of types, whole. Conditions: names of no monstrous size. -/
namespace Go.Proofs.YtjchnliaglecoaaGreatDoor
open Go Go.RowKit Go.Nodes
set_option linter.unusedVariables false
set_option linter.unusedSimpArgs false
theorem check36 : ∀ (f : Nat) (W : World) (va : List Value) (T : Sk) (d m : Int), TyAt W f va T → SmallT f T → 0 ≤ d → d ≤ 51 → 0 ≤ m → m ≤ 10006 →
    Calls Tryz.prog 36 #[.agg va.toArray, .int .i64 d, .int .i64 m] W (ChkPost W (chk f T d m))
  | 0, _, _, _, _, _, h, _, _, _, _, _ => h.elim
  | f + 1, W, va, .mk k ns qs, d, m, hA, hS, d0, d1, m0, m1 => by
    obtain ⟨_, l1, l2, np, nc, ap, ac, rfl, hn, ha⟩ := hA
    have Hih : Hid (∀ W', Below W.heap.size W W' → ∀ va T d m, TyAt W f va T → SmallT f T → 0 ≤ d → d ≤ 51 → 0 ≤ m → m ≤ 10006 → Calls Tryz.prog 36 #[.agg va.toArray, .int .i64 d, .int .i64 m] W' (ChkPost W' (chk f T d m))) :=
      hid fun W' hb va T d m h hs a b c e => check36 f W' va T d m (TyAt.later hb f _ _ h) hs a b c e
    unfold maxLen at l1 l2
    have p1 : (ns.length : Int) ≤ 9223372036854775807 := by omega
    have p2 : (qs.length : Int) ≤ 9223372036854775807 := by omega
    unfold SmallT at hS
    show Calls Tryz.prog 36 #[.agg #[.int .i64 k, .slice np ns.length nc, .slice ap qs.length ac], .int .i64 d, .int .i64 m] W (ChkPost W (chk (f + 1) (.mk k ns qs) d m))
    unfold chk
    by_cases h0 : 50 < d ∨ 10000 < m + 1
    · rw [if_pos h0]
      exact ck_deep W k d m np ap _ nc _ ac none d0 m0 m1 h0 p1 p2 rfl
    rw [if_neg h0]
    by_cases h6 : 0 ≤ k ∧ k ≤ 6
    · rw [if_pos h6]
      exact ck_flat W k d m np ap _ nc _ ac _ d0 (by omega) m0 (by omega) p1 p2 h6 rfl
    rw [if_neg h6]
    by_cases h7 : k = 7
    · rw [if_pos h7]
      exact ck_union W k d m np ap _ nc _ ac _ d0 (by omega) m0 (by omega) p1 p2 f qs (hid ha) (hid rfl) h7 rfl
    rw [if_neg h7]
    by_cases h8 : k = 8
    · rw [if_pos h8]
      exact ck_shape W k d m np ap _ nc _ ac _ d0 (by omega) m0 (by omega) p1 p2 f ns qs (hid hn) (hid ha) (hid rfl) (hid rfl) (hid hS.1) (hid hS.2) Hih h8 rfl
    rw [if_neg h8]
    by_cases h9 : k = 9
    · rw [if_pos h9]
      exact ck_func W k d m np ap _ nc _ ac _ d0 (by omega) m0 (by omega) p1 p2 f ns qs (hid hn) (hid ha) (hid rfl) (hid rfl) (hid hS.1) (hid hS.2) Hih h9 rfl
    rw [if_neg h9]
    exact ck_none W k d m np ap _ nc _ ac none d0 (by omega) m0 (by omega) p1 p2 (by omega) rfl
/-- Whether a type may be. -/
def okT (f : Nat) (T : Sk) : Bool := match chk f T 1 0 with
  | some n => decide (n ≤ 10000)
  | none => false
theorem ty_form {W : World} {f : Nat} {va : List Value} {T : Sk} (h : TyAt W f va T) : ∃ np nn nc ap an ac, va = [.int .i64 (skK T), .slice np nn nc, .slice ap an ac] ∧ nn = (skN T).length ∧ an = (skA T).length := by
  cases f with
  | zero => exact h.elim
  | succ f =>
    obtain ⟨k, ns, qs⟩ := T
    obtain ⟨_, _, _, np, nc, ap, ac, hv, _, _⟩ := h
    exact ⟨_, _, _, _, _, _, hv, rfl, rfl⟩
set_option maxRecDepth 100000 in
set_option maxHeartbeats 2000000 in
theorem rcheck15 (f : Nat) (W : World) (va : List Value) (T : Sk) (hA : TyAt W f va T) (hS : SmallT f T) :
    Calls Tryz.prog 15 #[.agg va.toArray] W fun e w' => e = .returned (.bool (okT f T)) ∧ Below W.heap.size W w' := by
  have Hc : Hid (∀ W', Below W.heap.size W W' → Calls Tryz.prog 36 #[.agg va.toArray, .int .i64 1, .int .i64 0] W' (ChkPost W' (chk f T 1 0))) := hid fun W' hb => check36 f W' va T 1 0 (TyAt.later hb f _ _ hA) hS (by omega) (by omega) (by omega) (by omega)
  have Hok : Hid (okT f T = match chk f T 1 0 with | some n => decide (n ≤ 10000) | none => false) := hid rfl
  obtain ⟨np, nn, nc, ap, an, ac, rfl, hf1, hf2⟩ := ty_form hA
  generalize okT f T = r at *
  generalize chk f T 1 0 = q at *
  generalize skK T = k at *
  unfold ChkPost at Hc
  clear hA hS hf1 hf2
  cases q with
  | none =>
    obtain rfl : r = false := Hok.out
    go_enter Tryz.func15, Tryz.ntmps15
    go_wp2_with (go_at_call 36; refine (Hc.out _ (by repeat (first | exact Below.refl _ _ | refine bN ?_ _ | refine bD ?_ | refine bG ?_ _ | refine bI ?_ _ _ | refine bA ?_ _))).mono ?_; rintro e w' ⟨⟨n, b, rfl, rfl, _⟩, hb⟩; obtain ⟨G3, rfl⟩ := bout hb; clear hb)
    go_ret
    exact ⟨rfl, by repeat (first | exact Below.refl _ _ | refine bN ?_ _ | refine bD ?_ | refine bG ?_ _ | refine bI ?_ _ _ | refine bA ?_ _)⟩
  | some m =>
    have hr : r = decide (m ≤ 10000) := Hok.out
    clear Hok
    go_enter Tryz.func15, Tryz.ntmps15
    go_wp2_with (go_at_call 36; refine (Hc.out _ (by repeat (first | exact Below.refl _ _ | refine bN ?_ _ | refine bD ?_ | refine bG ?_ _ | refine bI ?_ _ _ | refine bA ?_ _))).mono ?_; rintro e w' ⟨⟨n2, b, rfl, rfl, hn2⟩, hb⟩; obtain rfl : n2 = m := hn2 m rfl; obtain ⟨G3, rfl⟩ := bout hb; clear hb hn2)
    go_ret
    exact ⟨by rw [hr]; rfl, by repeat (first | exact Below.refl _ _ | refine bN ?_ _ | refine bD ?_ | refine bG ?_ _ | refine bI ?_ _ _ | refine bA ?_ _)⟩
end Go.Proofs.YtjchnliaglecoaaGreatDoor
