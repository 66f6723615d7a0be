/- narrow.Type, walked: the type itself, or the flat type of what is left. Conditions: the type may be; names of no monstrous size; the library's variables. -/
import Derived.Test.YtjchnliaglecoaaGreatDoorKt
set_option linter.unusedVariables false
set_option linter.unusedSimpArgs false
namespace Go.Proofs.YtjchnliaglecoaaGreatDoor
open Go Go.RowKit Go.Nodes
set_option linter.unusedVariables false
set_option linter.unusedSimpArgs false
theorem grow_two (W : World) (o o' : Obj) (G : Gro) {g : Nat} (h : W.heap.size + 2 ≤ g) : (grow ((W.alloc o).alloc o') G).heap[g]? = G.blocks[g - (W.heap.size + 2)]? := by
  show (((W.heap.push o).push o') ++ G.blocks)[g]? = _
  rw [Array.getElem?_append_right (by simp; omega), Array.size_push, Array.size_push]
def YOf (kk : Int) : Nat := (BitVec.ofInt 64 kk).toNat
set_option maxRecDepth 100000 in
set_option maxHeartbeats 4000000 in
theorem type16 (f : Nat) (W : World) (va : List Value) (T : Sk) (kk : Int) (h : Nat) (hA : TyAt W f va T) (hS : SmallT f T) (hl : Lib0 W) (hok : okT f T = true) (hh : kindsS T = (h : Int)) :
    Calls Tryz.prog 16 #[.agg va.toArray, .int .i64 kk] W fun e w' => Below W.heap.size W w' ∧ (e = .returned (.agg va.toArray) ∨
      (skK T ≤ 7 ∧ goodB (h &&& YOf kk) = true ∧ ∃ ua, e = .returned (.agg ua.toArray) ∧ TyFrom W.heap.size w' 2 ua (unionT ((h &&& YOf kk : Nat) : Int)))) := by
  have HK : Hid (∀ W', Below W.heap.size W W' → Calls Tryz.prog 37 #[.agg va.toArray] W' fun e w2 => e = .returned (.int .i64 (h : Int)) ∧ Below W'.heap.size W' w2) := hid fun W' hb => by
    have := kinds37 f W' va T (TyAt.later hb f _ _ hA) hS (hl.later hb) hok
    rwa [hh] at this
  obtain ⟨h', e1, e2, e3⟩ := kinds_nat hok
  obtain rfl : h = h' := by rw [hh] at e1; exact Int.ofNat.inj e1
  obtain ⟨β, b1, b2, b3⟩ := bits_and_nat h e2 kk
  have hb2 : β = h &&& YOf kk := b2
  rw [← hb2]
  have hβ : β ≤ 127 := by omega
  have hβh : β &&& h = β := by rw [b2, Nat.and_comm h, Nat.and_assoc, Nat.and_self]
  have HO := hid (fun w => ones38 β hβ w)
  obtain ⟨k0, k9, h7, h6⟩ := ok_kind hok
  have hone : 1 ≤ skK T → skK T ≤ 6 → h ∈ [1, 2, 4, 8, 16, 64] := fun q1 q2 => by
    unfold kindsS at hh
    rw [if_neg (by omega), if_neg (by omega), if_neg (by omega)] at hh
    have : skK T = 1 ∨ skK T = 2 ∨ skK T = 3 ∨ skK T = 4 ∨ skK T = 5 ∨ skK T = 6 := by omega
    rcases this with q | q | q | q | q | q <;> rw [q] at hh <;> simp [bitK] at hh <;> simp <;> omega
  have hany : skK T = 0 → h = 127 := fun q => by
    unfold kindsS at hh
    rw [q] at hh
    simp [bitK] at hh
    omega
  obtain ⟨np, nn, nc, ap, an, ac, rfl, hf1, hf2⟩ := ty_form hA
  have hgoodU : 1 ≤ skK T → skK T ≤ 7 → β ≠ h → β ≠ 0 → goodB β = true := fun q1 q2 q3 q4 => by
    by_cases q7 : skK T = 7
    · have h95 := e3 q7
      have hb95 : β &&& 95 = β := by rw [b2, Nat.and_comm h, Nat.and_assoc, h95]
      have hle95 : h ≤ 95 := by rw [← h95]; exact Nat.and_le_right
      unfold goodB
      simp only [Bool.and_eq_true, decide_eq_true_eq]
      exact ⟨⟨⟨hβ, hb95⟩, q4⟩, by omega⟩
    · rcases bit_one hβ (hone q1 (by omega)) hβh with q | q
      · exact absurd q q4
      · exact absurd q q3
  clear hA hS hl hok hh e1 e3 h7 h6 hf1 hf2 hone b2 hb2
  generalize skK T = k at *
  by_cases hk7' : 7 < k
  · have hk9 := k9
    clear hany hgoodU hβh k0 k9
    go_enter Tryz.func16, Tryz.ntmps16
    go_wp2_with (first | (go_at_call 37; refine (HK.out _ (by repeat (first | exact Below.refl _ _ | refine bN ?_ _ | refine bD ?_ | refine bG ?_ _ | refine bI ?_ _ _ | refine bA ?_ _))).mono ?_; rintro e w' ⟨rfl, hb⟩; obtain ⟨G, rfl⟩ := bout hb; clear hb) | (go_at_call 38; refine (HO.out _).mono ?_; rintro e w' ⟨rfl, hb⟩; obtain ⟨G2, rfl⟩ := bout hb; clear hb))
    exact ⟨rfl, _, results_cell_row (by rfl) _ _ (W.heap.size + 1) 39 #[.int .i64 k, .slice np nn nc, .slice ap an ac] (0, 0) _ rfl (by
      rw [(below_grow _ _).block _ (by simp)]
      have := heap_alloc_new (W.alloc (.cells #[.int .i64 k, .slice np nn nc, .slice ap an ac] 39)) (.cells #[.int .i64 k, .slice np nn nc, .slice ap an ac] 39)
      simpa using this) Tryz.underlying39 rfl (by kernel_rfl), by repeat (first | exact Below.refl _ _ | refine bN ?_ _ | refine bD ?_ | refine bG ?_ _ | refine bI ?_ _ _ | refine bA ?_ _), .inl rfl⟩
  have hk7 : k ≤ 7 := by omega
  have hk7n : ¬ 7 < k := by omega
  by_cases hbh : β = h
  · have hbi : ((β : Int) == (h : Int)) = true := by simp [hbh]
    clear hany hgoodU hβh hk7'
    go_enter Tryz.func16, Tryz.ntmps16
    go_wp2_with (first | (go_at_call 37; refine (HK.out _ (by repeat (first | exact Below.refl _ _ | refine bN ?_ _ | refine bD ?_ | refine bG ?_ _ | refine bI ?_ _ _ | refine bA ?_ _))).mono ?_; rintro e w' ⟨rfl, hb⟩; obtain ⟨G, rfl⟩ := bout hb; clear hb) | (go_at_call 38; refine (HO.out _).mono ?_; rintro e w' ⟨rfl, hb⟩; obtain ⟨G2, rfl⟩ := bout hb; clear hb))
    exact ⟨rfl, _, results_cell_row (by rfl) _ _ (W.heap.size + 1) 39 #[.int .i64 k, .slice np nn nc, .slice ap an ac] (0, 0) _ rfl (by
      rw [(below_grow _ _).block _ (by simp)]
      have := heap_alloc_new (W.alloc (.cells #[.int .i64 k, .slice np nn nc, .slice ap an ac] 39)) (.cells #[.int .i64 k, .slice np nn nc, .slice ap an ac] 39)
      simpa using this) Tryz.underlying39 rfl (by kernel_rfl), by repeat (first | exact Below.refl _ _ | refine bN ?_ _ | refine bD ?_ | refine bG ?_ _ | refine bI ?_ _ _ | refine bA ?_ _), .inl rfl⟩
  have hbi : ((β : Int) == (h : Int)) = false := by simp; omega
  by_cases hb0 : β = 0
  · have hbz : ((β : Int) == 0) = true := by simp [hb0]
    clear hany hgoodU hβh hk7'
    go_enter Tryz.func16, Tryz.ntmps16
    go_wp2_with (first | (go_at_call 37; refine (HK.out _ (by repeat (first | exact Below.refl _ _ | refine bN ?_ _ | refine bD ?_ | refine bG ?_ _ | refine bI ?_ _ _ | refine bA ?_ _))).mono ?_; rintro e w' ⟨rfl, hb⟩; obtain ⟨G, rfl⟩ := bout hb; clear hb) | (go_at_call 38; refine (HO.out _).mono ?_; rintro e w' ⟨rfl, hb⟩; obtain ⟨G2, rfl⟩ := bout hb; clear hb))
    exact ⟨rfl, _, results_cell_row (by rfl) _ _ (W.heap.size + 1) 39 #[.int .i64 k, .slice np nn nc, .slice ap an ac] (0, 0) _ rfl (by
      rw [(below_grow _ _).block _ (by simp)]
      have := heap_alloc_new (W.alloc (.cells #[.int .i64 k, .slice np nn nc, .slice ap an ac] 39)) (.cells #[.int .i64 k, .slice np nn nc, .slice ap an ac] 39)
      simpa using this) Tryz.underlying39 rfl (by kernel_rfl), by repeat (first | exact Below.refl _ _ | refine bN ?_ _ | refine bD ?_ | refine bG ?_ _ | refine bI ?_ _ _ | refine bA ?_ _), .inl rfl⟩
  have hbz : ((β : Int) == 0) = false := by simp; omega
  by_cases hk0 : k = 0
  · by_cases hp : 1 < popc β
    · have hpi : (1 : Int) < (popc β : Int) := by omega
      clear hany hgoodU hβh hk7'
      subst hk0
      go_enter Tryz.func16, Tryz.ntmps16
      go_wp2_with (first | (go_at_call 37; refine (HK.out _ (by repeat (first | exact Below.refl _ _ | refine bN ?_ _ | refine bD ?_ | refine bG ?_ _ | refine bI ?_ _ _ | refine bA ?_ _))).mono ?_; rintro e w' ⟨rfl, hb⟩; obtain ⟨G, rfl⟩ := bout hb; clear hb) | (go_at_call 38; refine (HO.out _).mono ?_; rintro e w' ⟨rfl, hb⟩; obtain ⟨G2, rfl⟩ := bout hb; clear hb))
      exact ⟨rfl, _, results_cell_row (by rfl) _ _ (W.heap.size + 1) 39 #[.int .i64 0, .slice np nn nc, .slice ap an ac] (0, 0) _ rfl (by
        rw [(below_grow _ _).block _ (by simp)]
        have := heap_alloc_new (W.alloc (.cells #[.int .i64 0, .slice np nn nc, .slice ap an ac] 39)) (.cells #[.int .i64 0, .slice np nn nc, .slice ap an ac] 39)
        simpa using this) Tryz.underlying39 rfl (by kernel_rfl), by repeat (first | exact Below.refl _ _ | refine bN ?_ _ | refine bD ?_ | refine bG ?_ _ | refine bI ?_ _ _ | refine bA ?_ _), .inl rfl⟩
    · by_cases h32 : β = 32
      · have h32i : ((β : Int) == 32) = true := by simp [h32]
        have hpi : ¬ (1 : Int) < (popc β : Int) := by omega
        have H32 := hid h32
        clear hany hgoodU hβh hk7' h32
        subst hk0
        go_enter Tryz.func16, Tryz.ntmps16
        go_wp2_with (first | (go_at_call 37; refine (HK.out _ (by repeat (first | exact Below.refl _ _ | refine bN ?_ _ | refine bD ?_ | refine bG ?_ _ | refine bI ?_ _ _ | refine bA ?_ _))).mono ?_; rintro e w' ⟨rfl, hb⟩; obtain ⟨G, rfl⟩ := bout hb; clear hb) | (go_at_call 38; refine (HO.out _).mono ?_; rintro e w' ⟨rfl, hb⟩; obtain ⟨G2, rfl⟩ := bout hb; clear hb))
        exact ⟨rfl, _, results_cell_row (by rfl) _ _ (W.heap.size + 1) 39 #[.int .i64 0, .slice np nn nc, .slice ap an ac] (0, 0) _ rfl (by
          rw [(below_grow _ _).block _ (by simp)]
          have := heap_alloc_new (W.alloc (.cells #[.int .i64 0, .slice np nn nc, .slice ap an ac] 39)) (.cells #[.int .i64 0, .slice np nn nc, .slice ap an ac] 39)
          simpa using this) Tryz.underlying39 rfl (by kernel_rfl), by repeat (first | exact Below.refl _ _ | refine bN ?_ _ | refine bD ?_ | refine bG ?_ _ | refine bI ?_ _ _ | refine bA ?_ _), .inl rfl⟩
      · have h32i : ((β : Int) == 32) = false := by simp; omega
        have hpi : ¬ (1 : Int) < (popc β : Int) := by omega
        have hgood : goodB β = true := one_good hβ (by omega) h32 hb0
        clear hany hgoodU hβh hk7'
        subst hk0
        obtain ⟨s1, s2, s3, s4, s5, s6⟩ := sel_of hgood
        have HU : Hid (∀ W', Calls Tryz.prog 39 #[.int .i64 (β : Int)] W' fun e w' => Below W'.heap.size W' w' ∧ ∃ k' np' nn' nc' ap' an' ac', e = .returned (.agg #[.int .i64 k', .slice np' nn' nc', .slice ap' an' ac']) ∧ Hid (TyFrom W'.heap.size w' 2 [.int .i64 k', .slice np' nn' nc', .slice ap' an' ac'] (unionT β))) := hid fun W' => (union39 β W' s1 s2).mono fun e w' ⟨hb, ua, he, hT⟩ => by
          obtain ⟨np', nn', nc', ap', an', ac', rfl, _, _⟩ := ty_form (hT w' (Nat.le_refl _) (fun _ _ _ => rfl))
          exact ⟨hb, _, _, _, _, _, _, _, he, hid hT⟩
        have Hgood := hid hgood
        have Hk7 := hid hk7
        clear s1 s2 s3 s4 s5 s6 hgood
        go_enter Tryz.func16, Tryz.ntmps16
        go_wp2_with (first | (go_at_call 37; refine (HK.out _ (by repeat (first | exact Below.refl _ _ | refine bN ?_ _ | refine bD ?_ | refine bG ?_ _ | refine bI ?_ _ _ | refine bA ?_ _))).mono ?_; rintro e w' ⟨rfl, hb⟩; obtain ⟨G, rfl⟩ := bout hb; clear hb) | (go_at_call 38; refine (HO.out _).mono ?_; rintro e w' ⟨rfl, hb⟩; obtain ⟨G2, rfl⟩ := bout hb; clear hb) | (go_at_call 39; refine (HU.out _).mono ?_; rintro e w' ⟨hb, k', np', nn', nc', ap', an', ac', rfl, KT⟩; obtain ⟨G3, rfl⟩ := bout hb; clear hb))
        refine ⟨rfl, _, results_cell_row (by rfl) _ _ (W.heap.size + 1) 39 #[.int .i64 k', .slice np' nn' nc', .slice ap' an' ac'] (0, 0) _ rfl (by
          rw [(below_grow _ _).block _ (by simp)]
          have := heap_alloc_new (W.alloc (.cells #[.int .i64 0, .slice np nn nc, .slice ap an ac] 39)) (.cells #[.int .i64 k', .slice np' nn' nc', .slice ap' an' ac'] 39)
          simpa using this) Tryz.underlying39 rfl (by kernel_rfl), by repeat (first | exact Below.refl _ _ | refine bN ?_ _ | refine bD ?_ | refine bG ?_ _ | refine bI ?_ _ _ | refine bA ?_ _), .inr ⟨Hk7.out, Hgood.out, [.int .i64 k', .slice np' nn' nc', .slice ap' an' ac'], rfl, ?_⟩⟩
        intro W'' hs hg
        have K := KT.out
        try rw [grow_grow] at K
        refine K W'' (by simpa using hs) (fun g q1 q2 => ?_)
        have q3 : W.heap.size + 2 ≤ g := by simp at q1; omega
        rw [hg g (by omega) (by simpa using q2), grow_two _ _ _ _ q3, grow_two _ _ _ _ q3]
  · have hk0b : (k == 0) = false := by simp; omega
    have hgood : goodB β = true := hgoodU (by omega) hk7 hbh hb0
    clear hany hgoodU hβh hk7'
    obtain ⟨s1, s2, s3, s4, s5, s6⟩ := sel_of hgood
    have HU : Hid (∀ W', Calls Tryz.prog 39 #[.int .i64 (β : Int)] W' fun e w' => Below W'.heap.size W' w' ∧ ∃ k' np' nn' nc' ap' an' ac', e = .returned (.agg #[.int .i64 k', .slice np' nn' nc', .slice ap' an' ac']) ∧ Hid (TyFrom W'.heap.size w' 2 [.int .i64 k', .slice np' nn' nc', .slice ap' an' ac'] (unionT β))) := hid fun W' => (union39 β W' s1 s2).mono fun e w' ⟨hb, ua, he, hT⟩ => by
      obtain ⟨np', nn', nc', ap', an', ac', rfl, _, _⟩ := ty_form (hT w' (Nat.le_refl _) (fun _ _ _ => rfl))
      exact ⟨hb, _, _, _, _, _, _, _, he, hid hT⟩
    have Hgood := hid hgood
    have Hk7 := hid hk7
    clear s1 s2 s3 s4 s5 s6 hgood
    go_enter Tryz.func16, Tryz.ntmps16
    go_wp2_with (first | (go_at_call 37; refine (HK.out _ (by repeat (first | exact Below.refl _ _ | refine bN ?_ _ | refine bD ?_ | refine bG ?_ _ | refine bI ?_ _ _ | refine bA ?_ _))).mono ?_; rintro e w' ⟨rfl, hb⟩; obtain ⟨G, rfl⟩ := bout hb; clear hb) | (go_at_call 38; refine (HO.out _).mono ?_; rintro e w' ⟨rfl, hb⟩; obtain ⟨G2, rfl⟩ := bout hb; clear hb) | (go_at_call 39; refine (HU.out _).mono ?_; rintro e w' ⟨hb, k', np', nn', nc', ap', an', ac', rfl, KT⟩; obtain ⟨G3, rfl⟩ := bout hb; clear hb))
    refine ⟨rfl, _, results_cell_row (by rfl) _ _ (W.heap.size + 1) 39 #[.int .i64 k', .slice np' nn' nc', .slice ap' an' ac'] (0, 0) _ rfl (by
      rw [(below_grow _ _).block _ (by simp)]
      have := heap_alloc_new (W.alloc (.cells #[.int .i64 k, .slice np nn nc, .slice ap an ac] 39)) (.cells #[.int .i64 k', .slice np' nn' nc', .slice ap' an' ac'] 39)
      simpa using this) Tryz.underlying39 rfl (by kernel_rfl), by repeat (first | exact Below.refl _ _ | refine bN ?_ _ | refine bD ?_ | refine bG ?_ _ | refine bI ?_ _ _ | refine bA ?_ _), .inr ⟨Hk7.out, Hgood.out, [.int .i64 k', .slice np' nn' nc', .slice ap' an' ac'], rfl, ?_⟩⟩
    intro W'' hs hg
    have K := KT.out
    try rw [grow_grow] at K
    refine K W'' (by simpa using hs) (fun g q1 q2 => ?_)
    have q3 : W.heap.size + 2 ≤ g := by simp at q1; omega
    rw [hg g (by omega) (by simpa using q2), grow_two _ _ _ _ q3, grow_two _ _ _ _ q3]
end Go.Proofs.YtjchnliaglecoaaGreatDoor
