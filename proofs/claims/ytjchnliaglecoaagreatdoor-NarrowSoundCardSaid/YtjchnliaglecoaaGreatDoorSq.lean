/- The reference's Sub: a type that may be with itself; a flat type of some of its kinds with it. Conditions: names of no monstrous size. -/
import Derived.Test.YtjchnliaglecoaaGreatDoorSf9X
import Derived.Test.YtjchnliaglecoaaGreatDoorKt
set_option linter.unusedVariables false
set_option linter.unusedSimpArgs false
namespace Go.Proofs.YtjchnliaglecoaaGreatDoor
open Go Go.RowKit Go.Nodes
set_option linter.unusedVariables false
set_option linter.unusedSimpArgs false
theorem andnot_tab : ((List.range 128).all fun h => (List.range 128).all fun β => !decide (β &&& h = β) || decide (bits .andNot .i64 (β : Int) (h : Int) = 0)) = true := by decide +kernel
theorem andnot_zero {β h : Nat} (hβ : β ≤ 127) (hh : h ≤ 127) (hs : β &&& h = β) : bits .andNot .i64 (β : Int) (h : Int) = 0 := by
  have h1 := List.all_eq_true.1 (List.all_eq_true.1 andnot_tab h (List.mem_range.2 (by omega))) β (List.mem_range.2 (by omega))
  rw [decide_eq_true hs] at h1
  simpa using h1
set_option maxRecDepth 100000 in
set_option maxHeartbeats 4000000 in
theorem sub41_any (W : World) (k : Int) (np ap np2 ap2 : Option Addr) (nn nc an ac nn2 nc2 an2 ac2 : Nat) :
    Calls Tryz.prog 41 #[.agg #[.int .i64 k, .slice np nn nc, .slice ap an ac], .agg #[.int .i64 0, .slice np2 nn2 nc2, .slice ap2 an2 ac2]] W fun e w' => e = .returned (.bool true) ∧ Below W.heap.size W w' := by
  go_enter Tryz.func41, Tryz.ntmps41
  go_wp2_with (go_at_call 18; refine (table18 _).mono ?_; rintro e w' ⟨rfl, hb⟩; obtain ⟨G, rfl⟩ := bout hb; clear hb)
  go_ret
  exact ⟨rfl, by repeat (first | exact Below.refl _ _ | refine bN ?_ _ | refine bD ?_ | refine bG ?_ _ | refine bI ?_ _ _ | refine bA ?_ _)⟩
set_option maxHeartbeats 2000000 in
theorem sub41_refl : ∀ (f : Nat) (W : World) (va : List Value) (T : Sk), TyAt W f va T → SmallT f T → okT f T = true →
    Calls Tryz.prog 41 #[.agg va.toArray, .agg va.toArray] W fun e w' => e = .returned (.bool true) ∧ Below W.heap.size W w'
  | 0, _, _, _, h, _, _ => h.elim
  | f + 1, W, va, .mk k ns qs, hA, hS, hok => by
    obtain ⟨h0, h9, h7, h6⟩ := ok_kind hok
    simp only [skK] at h0 h9 h7 h6
    by_cases k0 : k = 0
    · subst k0
      obtain ⟨_, _, _, np, nc, ap, ac, rfl, _, _⟩ := hA
      exact sub41_any W 0 np ap np ap _ nc _ ac _ nc _ ac
    by_cases k7 : k ≤ 7
    · obtain ⟨h, e1, e2, _⟩ := kinds_nat hok
      have HK : Hid (∀ W', Below W.heap.size W W' → Calls Tryz.prog 18 #[.agg va.toArray] W' fun e w' => e = .returned (.int .i64 (h : Int)) ∧ Below W'.heap.size W' w') := hid fun W' hb => by
        have := kinds18 (f + 1) W' va _ (TyAt.later hb _ _ _ hA) hS hok
        rwa [e1] at this
      obtain ⟨_, _, _, np, nc, ap, ac, rfl, _, _⟩ := hA
      exact sub41_flat W k k h h np ap np ap _ nc _ ac _ nc _ ac (by omega) k7 (by omega) k7 (andnot_zero e2 e2 (Nat.and_self h)) HK HK
    obtain ⟨_, l1, l2, np, nc, ap, ac, rfl, hn, ha⟩ := hA
    unfold SmallT at hS
    unfold maxLen at l1 l2
    obtain ⟨q1, q2, q3⟩ := ok_parts hok (by omega)
    by_cases k8 : k = 8
    · subst k8
      obtain ⟨r1, r2⟩ := q2 rfl
      have := sub41_shape W f np ap ns.length nc ac ns qs (hid hn) (hid ha) (hid rfl) (hid r1) (by omega) (hid r2) (hid hS.2) (hid q1)
      have e : Value.slice ap qs.length ac = Value.slice ap ns.length ac := by rw [r1]
      show Calls Tryz.prog 41 #[.agg #[.int .i64 8, .slice np ns.length nc, .slice ap qs.length ac], .agg #[.int .i64 8, .slice np ns.length nc, .slice ap qs.length ac]] W _
      rw [e]
      exact this
    · obtain rfl : k = 9 := by omega
      obtain ⟨r1, r2⟩ := q3 rfl
      exact sub41_func W f np ap ns.length nc qs.length ac qs (hid ha) (hid rfl) r2 (by omega) (hid fun i hi W' hb va hT => sub41_refl f W' va qs[i] (TyAt.later hb f _ _ hT) (hS.2 _ (List.getElem_mem hi)) (q1 _ (List.getElem_mem hi)))
set_option maxRecDepth 100000 in
set_option maxHeartbeats 2000000 in
theorem sub17 (f g : Nat) (W : World) (va vb : List Value) (T U : Sk) (hA : TyAt W f va T) (hB : TyAt W g vb U) (hS : SmallT f T) (hS2 : SmallT g U) (hok : okT f T = true) (hok2 : okT g U = true)
    (H : ∀ W', Below W.heap.size W W' → Calls Tryz.prog 41 #[.agg va.toArray, .agg vb.toArray] W' fun e w' => e = .returned (.bool true) ∧ Below W'.heap.size W' w') :
    Calls Tryz.prog 17 #[.agg va.toArray, .agg vb.toArray] W fun e w' => e = .returned (.bool true) ∧ Below W.heap.size W w' := by
  have H1 : Hid (∀ W', Below W.heap.size W W' → Calls Tryz.prog 40 #[.agg va.toArray, .agg vb.toArray] W' fun e w2 => e = .returned (.bool true) ∧ Below W'.heap.size W' w2) := hid fun W' hb =>
    both40 f g W' va vb T U (TyAt.later hb f _ _ hA) (TyAt.later hb g _ _ hB) hS hS2 hok hok2
  have H2 := hid H
  obtain ⟨np, nn, nc, ap, an, ac, rfl, hf1, hf2⟩ := ty_form hA
  obtain ⟨np', nn', nc', ap', an', ac', rfl, hf3, hf4⟩ := ty_form hB
  generalize skK T = k at *
  generalize skK U = k' at *
  clear hf1 hf2 hf3 hf4 hA hB hS hS2 hok hok2 H
  go_enter Tryz.func17, Tryz.ntmps17
  go_wp2_with (first
    | (go_at_call 40; refine (H1.out _ (by repeat (first | exact Below.refl _ _ | refine bN ?_ _ | refine bD ?_ | refine bG ?_ _ | refine bI ?_ _ _ | refine bA ?_ _))).mono ?_; rintro e w' ⟨rfl, hb⟩; obtain ⟨G, rfl⟩ := bout hb; clear hb)
    | (go_at_call 41; refine (H2.out _ (by repeat (first | exact Below.refl _ _ | refine bN ?_ _ | refine bD ?_ | refine bG ?_ _ | refine bI ?_ _ _ | refine bA ?_ _))).mono ?_; rintro e w' ⟨rfl, hb⟩; obtain ⟨G, rfl⟩ := bout hb; clear hb))
  go_ret
  exact ⟨rfl, by repeat (first | exact Below.refl _ _ | refine bN ?_ _ | refine bD ?_ | refine bG ?_ _ | refine bI ?_ _ _ | refine bA ?_ _)⟩
end Go.Proofs.YtjchnliaglecoaaGreatDoor
