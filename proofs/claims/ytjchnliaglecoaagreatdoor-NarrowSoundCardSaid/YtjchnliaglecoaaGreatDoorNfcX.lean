/- NarrowSound: the narrowed type is below the type it came from; the bits of the narrowed. -/
import Derived.Test.YtjchnliaglecoaaGreatDoorSq
import Derived.Test.YtjchnliaglecoaaGreatDoorNy
import Derived.Test.YtjchnliaglecoaaGreatDoorCn
import Derived.Test.YtjchnliaglecoaaGreatDoorAw12X
set_option linter.unusedVariables false
set_option linter.unusedSimpArgs false
namespace Go.Proofs.YtjchnliaglecoaaGreatDoor
open Go Go.RowKit Go.Nodes
set_option linter.unusedVariables false
set_option linter.unusedSimpArgs false
theorem small_leaf (f : Nat) (k : Int) : SmallT f (leafT k) := by
  cases f with
  | zero => trivial
  | succ f => unfold leafT SmallT; exact ⟨fun s hs => (nomatch hs), fun T hT => nomatch hT⟩
theorem small_union (f : Nat) (b : Int) : SmallT f (unionT b) := by
  unfold unionT
  split
  · exact small_leaf f _
  · cases f with
    | zero => trivial
    | succ f =>
      unfold SmallT
      refine ⟨fun s hs => (nomatch hs), fun T hT => ?_⟩
      obtain ⟨k, _, rfl⟩ := List.mem_map.1 hT
      exact small_leaf f k
theorem sub_union (f : Nat) (W : World) (va ua : List Value) (T : Sk) (β h : Nat) (hA : TyAt W f va T) (hU : TyAt W 2 ua (unionT (β : Int))) (hS : SmallT f T) (hok : okT f T = true)
    (hh : kindsS T = (h : Int)) (hs : β &&& h = β) (hg : goodB β = true) (h7 : skK T ≤ 7) :
    Calls Tryz.prog 41 #[.agg ua.toArray, .agg va.toArray] W fun e w' => e = .returned (.bool true) ∧ Below W.heap.size W w' := by
  obtain ⟨_, _, u1, u2, u3, u4⟩ := sel_of hg
  have hSu := small_union 2 (β : Int)
  obtain ⟨k0, _, _, _⟩ := ok_kind hok
  have HKa : Hid (∀ W', Below W.heap.size W W' → Calls Tryz.prog 18 #[.agg ua.toArray] W' fun e w' => e = .returned (.int .i64 (β : Int)) ∧ Below W'.heap.size W' w') := hid fun W' hb => by
    have := kinds18 2 W' ua _ (TyAt.later hb _ _ _ hU) hSu u1
    rwa [u2] at this
  have HKb : Hid (∀ W', Below W.heap.size W W' → Calls Tryz.prog 18 #[.agg va.toArray] W' fun e w' => e = .returned (.int .i64 (h : Int)) ∧ Below W'.heap.size W' w') := hid fun W' hb => by
    have := kinds18 f W' va _ (TyAt.later hb _ _ _ hA) hS hok
    rwa [hh] at this
  obtain ⟨h', e1, e2, _⟩ := kinds_nat hok
  obtain rfl : h = h' := by rw [hh] at e1; exact Int.ofNat.inj e1
  have hb : β ≤ 127 := by unfold goodB at hg; simp at hg; omega
  obtain ⟨np, nn, nc, ap, an, ac, rfl, _, _⟩ := ty_form hU
  obtain ⟨np', nn', nc', ap', an', ac', rfl, _, _⟩ := ty_form hA
  by_cases q : skK T = 0
  · rw [q]
    exact sub41_any W _ np ap np' ap' nn nc an ac nn' nc' an' ac'
  · exact sub41_flat W _ _ _ _ np ap np' ap' nn nc an ac nn' nc' an' ac' u3 u4 (by omega) h7 (andnot_zero hb e2 hs) HKa HKb
/-- The law's last word, in bits: `a` the bits of the answer. -/
theorem last_tab : ((List.range 7).all fun k => (List.range 128).all fun h => (List.range 128).all fun y =>
    decide (bits .and .i64 (h : Int) ((2 ^ k : Nat) : Int) = 0) || decide (y &&& 2 ^ k = 0) || !decide (bits .and .i64 ((h &&& y : Nat) : Int) ((2 ^ k : Nat) : Int) = 0)) = true := by decide +kernel
theorem shl_tab : ((List.range 7).all fun k => decide (bits .and .i64 (0 : Int) ((2 ^ k : Nat) : Int) = 0)) = true := by decide +kernel
end Go.Proofs.YtjchnliaglecoaaGreatDoor

/- NarrowSound's law, walked. -/
namespace Go.Proofs.YtjchnliaglecoaaGreatDoor
open Go Go.RowKit Go.Nodes
set_option linter.unusedVariables false
set_option linter.unusedSimpArgs false
set_option maxRecDepth 100000 in
set_option maxHeartbeats 4000000 in
theorem law5_many (f : Nat) (W : World) (va : List Value) (T : Sk) (kk k : Int) (hA : TyAt W f va T) (hl : Lib0 W) (hc : ¬ countS f T 0 0 ≤ 500) :
    Calls Tryz.prog 5 #[.agg va.toArray, .int .i64 kk, .int .i64 k] W fun e w' => e = .returned (.bool true) ∧ Below W.heap.size W w' := by
  have HA : Hid (∀ W', Below W.heap.size W W' → Calls Tryz.prog 8 #[] W' fun e w' => e = .returned (.bool true) ∧ Below W'.heap.size W' w') := hid fun W' hb => awake12 W' (hl.later hb)
  have HF : Hid (∀ W', Below W.heap.size W W' → Calls Tryz.prog 14 #[.agg va.toArray] W' fun e w' => e = .returned (.bool false) ∧ Below W'.heap.size W' w') := hid fun W' hb => by
    have := few23 f W' va T (TyAt.later hb f _ _ hA)
    rwa [decide_eq_false hc] at this
  obtain ⟨np, nn, nc, ap, an, ac, rfl, hf1, hf2⟩ := ty_form hA
  generalize skK T = kt at *
  clear hA hl hc hf1 hf2
  go_enter Tryz.func5, Tryz.ntmps5
  go_wp2_with (first
    | (go_at_call 8; refine (HA.out _ (by repeat (first | exact Below.refl _ _ | refine bN ?_ _ | refine bD ?_ | refine bG ?_ _ | refine bI ?_ _ _ | refine bA ?_ _))).mono ?_; rintro e w' ⟨rfl, hb⟩; obtain ⟨G, rfl⟩ := bout hb; clear hb)
    | (go_at_call 14; refine (HF.out _ (by repeat (first | exact Below.refl _ _ | refine bN ?_ _ | refine bD ?_ | refine bG ?_ _ | refine bI ?_ _ _ | refine bA ?_ _))).mono ?_; rintro e w' ⟨rfl, hb⟩; obtain ⟨G, rfl⟩ := bout hb; clear hb))
  go_ret
  exact ⟨rfl, by repeat (first | exact Below.refl _ _ | refine bN ?_ _ | refine bD ?_ | refine bG ?_ _ | refine bI ?_ _ _ | refine bA ?_ _)⟩
set_option maxRecDepth 100000 in
set_option maxHeartbeats 4000000 in
theorem law5_bad (f : Nat) (W : World) (va : List Value) (T : Sk) (kk k : Int) (hA : TyAt W f va T) (hS : SmallT f T) (hl : Lib0 W) (hc : countS f T 0 0 ≤ 500) (hk : okT f T = false) :
    Calls Tryz.prog 5 #[.agg va.toArray, .int .i64 kk, .int .i64 k] W fun e w' => e = .returned (.bool true) ∧ Below W.heap.size W w' := by
  have HA : Hid (∀ W', Below W.heap.size W W' → Calls Tryz.prog 8 #[] W' fun e w' => e = .returned (.bool true) ∧ Below W'.heap.size W' w') := hid fun W' hb => awake12 W' (hl.later hb)
  have HF : Hid (∀ W', Below W.heap.size W W' → Calls Tryz.prog 14 #[.agg va.toArray] W' fun e w' => e = .returned (.bool true) ∧ Below W'.heap.size W' w') := hid fun W' hb => by
    have := few23 f W' va T (TyAt.later hb f _ _ hA)
    rwa [decide_eq_true hc] at this
  have HR : Hid (∀ W', Below W.heap.size W W' → Calls Tryz.prog 15 #[.agg va.toArray] W' fun e w' => e = .returned (.bool (okT f T)) ∧ Below W'.heap.size W' w') := hid fun W' hb => rcheck15 f W' va T (TyAt.later hb f _ _ hA) hS
  rw [hk] at HR
  obtain ⟨np, nn, nc, ap, an, ac, rfl, hf1, hf2⟩ := ty_form hA
  generalize skK T = kt at *
  clear hk hA hl hc hf1 hf2 hS
  go_enter Tryz.func5, Tryz.ntmps5
  go_wp2_with (first | (go_at_call 8; refine (HA.out _ (by repeat (first | exact Below.refl _ _ | refine bN ?_ _ | refine bD ?_ | refine bG ?_ _ | refine bI ?_ _ _ | refine bA ?_ _))).mono ?_; rintro e w' ⟨rfl, hb⟩; obtain ⟨G, rfl⟩ := bout hb; clear hb) | (go_at_call 14; refine (HF.out _ (by repeat (first | exact Below.refl _ _ | refine bN ?_ _ | refine bD ?_ | refine bG ?_ _ | refine bI ?_ _ _ | refine bA ?_ _))).mono ?_; rintro e w' ⟨rfl, hb⟩; obtain ⟨G, rfl⟩ := bout hb; clear hb) | (go_at_call 15; refine (HR.out _ (by repeat (first | exact Below.refl _ _ | refine bN ?_ _ | refine bD ?_ | refine bG ?_ _ | refine bI ?_ _ _ | refine bA ?_ _))).mono ?_; rintro e w' ⟨rfl, hb⟩; obtain ⟨G, rfl⟩ := bout hb; clear hb))
  go_ret
  exact ⟨rfl, by repeat (first | exact Below.refl _ _ | refine bN ?_ _ | refine bD ?_ | refine bG ?_ _ | refine bI ?_ _ _ | refine bA ?_ _)⟩
set_option maxRecDepth 100000 in
set_option maxHeartbeats 4000000 in
theorem law5_out (f : Nat) (W : World) (va : List Value) (T : Sk) (kk k : Int) (hA : TyAt W f va T) (hS : SmallT f T) (hl : Lib0 W) (hc : countS f T 0 0 ≤ 500) (hk : okT f T = true) (hr : k < 0 ∨ 6 < k) :
    Calls Tryz.prog 5 #[.agg va.toArray, .int .i64 kk, .int .i64 k] W fun e w' => e = .returned (.bool true) ∧ Below W.heap.size W w' := by
  have HA : Hid (∀ W', Below W.heap.size W W' → Calls Tryz.prog 8 #[] W' fun e w' => e = .returned (.bool true) ∧ Below W'.heap.size W' w') := hid fun W' hb => awake12 W' (hl.later hb)
  have HF : Hid (∀ W', Below W.heap.size W W' → Calls Tryz.prog 14 #[.agg va.toArray] W' fun e w' => e = .returned (.bool true) ∧ Below W'.heap.size W' w') := hid fun W' hb => by
    have := few23 f W' va T (TyAt.later hb f _ _ hA)
    rwa [decide_eq_true hc] at this
  have HR : Hid (∀ W', Below W.heap.size W W' → Calls Tryz.prog 15 #[.agg va.toArray] W' fun e w' => e = .returned (.bool (okT f T)) ∧ Below W'.heap.size W' w') := hid fun W' hb => rcheck15 f W' va T (TyAt.later hb f _ _ hA) hS
  rw [hk] at HR
  obtain ⟨np, nn, nc, ap, an, ac, rfl, hf1, hf2⟩ := ty_form hA
  generalize skK T = kt at *
  clear hA hl hc hf1 hf2 hS hk
  by_cases hk0 : k < 0
  · go_enter Tryz.func5, Tryz.ntmps5
    go_wp2_with (first | (go_at_call 8; refine (HA.out _ (by repeat (first | exact Below.refl _ _ | refine bN ?_ _ | refine bD ?_ | refine bG ?_ _ | refine bI ?_ _ _ | refine bA ?_ _))).mono ?_; rintro e w' ⟨rfl, hb⟩; obtain ⟨G, rfl⟩ := bout hb; clear hb) | (go_at_call 14; refine (HF.out _ (by repeat (first | exact Below.refl _ _ | refine bN ?_ _ | refine bD ?_ | refine bG ?_ _ | refine bI ?_ _ _ | refine bA ?_ _))).mono ?_; rintro e w' ⟨rfl, hb⟩; obtain ⟨G, rfl⟩ := bout hb; clear hb) | (go_at_call 15; refine (HR.out _ (by repeat (first | exact Below.refl _ _ | refine bN ?_ _ | refine bD ?_ | refine bG ?_ _ | refine bI ?_ _ _ | refine bA ?_ _))).mono ?_; rintro e w' ⟨rfl, hb⟩; obtain ⟨G, rfl⟩ := bout hb; clear hb))
    go_ret
    exact ⟨rfl, by repeat (first | exact Below.refl _ _ | refine bN ?_ _ | refine bD ?_ | refine bG ?_ _ | refine bI ?_ _ _ | refine bA ?_ _)⟩
  · have hk6 : 6 < k := by omega
    go_enter Tryz.func5, Tryz.ntmps5
    go_wp2_with (first | (go_at_call 8; refine (HA.out _ (by repeat (first | exact Below.refl _ _ | refine bN ?_ _ | refine bD ?_ | refine bG ?_ _ | refine bI ?_ _ _ | refine bA ?_ _))).mono ?_; rintro e w' ⟨rfl, hb⟩; obtain ⟨G, rfl⟩ := bout hb; clear hb) | (go_at_call 14; refine (HF.out _ (by repeat (first | exact Below.refl _ _ | refine bN ?_ _ | refine bD ?_ | refine bG ?_ _ | refine bI ?_ _ _ | refine bA ?_ _))).mono ?_; rintro e w' ⟨rfl, hb⟩; obtain ⟨G, rfl⟩ := bout hb; clear hb) | (go_at_call 15; refine (HR.out _ (by repeat (first | exact Below.refl _ _ | refine bN ?_ _ | refine bD ?_ | refine bG ?_ _ | refine bI ?_ _ _ | refine bA ?_ _))).mono ?_; rintro e w' ⟨rfl, hb⟩; obtain ⟨G, rfl⟩ := bout hb; clear hb))
    go_ret
    exact ⟨rfl, by repeat (first | exact Below.refl _ _ | refine bN ?_ _ | refine bD ?_ | refine bG ?_ _ | refine bI ?_ _ _ | refine bA ?_ _)⟩
end Go.Proofs.YtjchnliaglecoaaGreatDoor

/- NarrowSound's law: what narrow.Type answers, for the law's last words. -/
namespace Go.Proofs.YtjchnliaglecoaaGreatDoor
open Go Go.RowKit Go.Nodes
set_option linter.unusedVariables false
set_option linter.unusedSimpArgs false
def LastW (kk h m : Int) (k : Nat) : Prop := bits .and .i64 h ((2 ^ k : Nat) : Int) = 0 ∨ bits .and .i64 kk ((2 ^ k : Nat) : Int) = 0 ∨ bits .and .i64 m ((2 ^ k : Nat) : Int) ≠ 0
theorem last_same (kk h : Int) (k : Nat) : LastW kk h h k := by
  unfold LastW
  by_cases h1 : bits .and .i64 h ((2 ^ k : Nat) : Int) = 0
  · exact .inl h1
  · exact .inr (.inr h1)
theorem bits_comm (a b : Int) : bits .and .i64 a b = bits .and .i64 b a := by
  unfold bits
  simp only [BitVec.and_comm]
theorem pow_tab : ((List.range 7).all fun k => decide (2 ^ k ≤ 127 ∧ (2 ^ k) &&& 127 = 2 ^ k)) = true := by decide +kernel
theorem last_and {kk : Int} {h k : Nat} (hh : h ≤ 127) (hk : k ≤ 6) : LastW kk (h : Int) ((h &&& YOf kk : Nat) : Int) k := by
  unfold LastW
  have hp := List.all_eq_true.1 pow_tab k (List.mem_range.2 (by omega))
  simp only [decide_eq_true_eq] at hp
  have h1 := List.all_eq_true.1 (List.all_eq_true.1 (List.all_eq_true.1 last_tab k (List.mem_range.2 (by omega))) h (List.mem_range.2 (by omega))) (YOf kk &&& 127) (List.mem_range.2 (by have : YOf kk &&& 127 ≤ 127 := Nat.and_le_right; omega))
  have h127 : h &&& 127 = h := by
    have : h &&& (2 ^ 7 - 1) = h % 2 ^ 7 := Nat.and_two_pow_sub_one_eq_mod h 7
    rw [show (127 : Nat) = 2 ^ 7 - 1 from rfl, this]; exact Nat.mod_eq_of_lt (by omega)
  have e1 : h &&& (YOf kk &&& 127) = h &&& YOf kk := by rw [Nat.and_comm (YOf kk), ← Nat.and_assoc, h127]
  have e2 : YOf kk &&& 127 &&& 2 ^ k = 2 ^ k &&& YOf kk := by rw [Nat.and_assoc, Nat.and_comm 127, hp.2, Nat.and_comm]
  rw [e1, e2] at h1
  obtain ⟨γ, g1, g2, _⟩ := bits_and_nat (2 ^ k) hp.1 kk
  have g2' : γ = 2 ^ k &&& YOf kk := g2
  rw [← g2'] at h1
  simp only [Bool.or_eq_true, decide_eq_true_eq, Bool.not_eq_true', decide_eq_false_iff_not] at h1
  rcases h1 with (h1 | h1) | h1
  · exact .inl h1
  · refine .inr (.inl ?_)
    rw [bits_comm, g1, h1]; rfl
  · exact .inr (.inr h1)
theorem ans16 (f : Nat) (W0 W : World) (va : List Value) (T : Sk) (kk : Int) (h k : Nat) (hb0 : Below W0.heap.size W0 W) (hA : TyAt W0 f va T) (hS : SmallT f T) (hl : Lib0 W0) (hok : okT f T = true) (hh : kindsS T = (h : Int)) (hk : k ≤ 6) :
    Calls Tryz.prog 16 #[.agg va.toArray, .int .i64 kk] W fun e w' => Below W.heap.size W w' ∧ ∃ ua, e = .returned (.agg ua.toArray) ∧ (∃ k' np nn nc ap an ac, ua = [.int .i64 k', .slice np nn nc, .slice ap an ac]) ∧
      ∃ m, LastW kk h m k ∧ ∀ W'', Below W0.heap.size W0 W'' → w'.heap.size ≤ W''.heap.size → (∀ g, W.heap.size ≤ g → g < w'.heap.size → W''.heap[g]? = w'.heap[g]?) →
        (Calls Tryz.prog 17 #[.agg ua.toArray, .agg va.toArray] W'' fun e w3 => e = .returned (.bool true) ∧ Below W''.heap.size W'' w3) ∧ (Calls Tryz.prog 18 #[.agg ua.toArray] W'' fun e w3 => e = .returned (.int .i64 m) ∧ Below W''.heap.size W'' w3) := by
  obtain ⟨h', e1, e2, _⟩ := kinds_nat hok
  obtain rfl : h = h' := by rw [hh] at e1; exact Int.ofNat.inj e1
  refine (type16 f W va T kk h (TyAt.later hb0 f _ _ hA) hS (hl.later hb0) hok hh).mono fun e w' ⟨hb, hor⟩ => ⟨hb, ?_⟩
  rcases hor with rfl | ⟨h7, hg, ua, rfl, hT⟩
  · obtain ⟨np, nn, nc, ap, an, ac, hv, _, _⟩ := ty_form hA
    refine ⟨va, rfl, ⟨_, _, _, _, _, _, _, hv⟩, h, last_same _ _ _, fun W'' hb2 _ _ => ?_⟩
    have hA2 := TyAt.later hb2 f _ _ hA
    refine ⟨sub17 f f W'' va va T T hA2 hA2 hS hS hok hok fun W3 hb3 => sub41_refl f W3 va T (TyAt.later hb3 f _ _ hA2) hS hok, ?_⟩
    have := kinds18 f W'' va T hA2 hS hok
    rwa [hh] at this
  · have hU0 := hT w' (Nat.le_refl _) (fun _ _ _ => rfl)
    obtain ⟨np, nn, nc, ap, an, ac, hv, _, _⟩ := ty_form hU0
    obtain ⟨_, _, u1, u2, _, _⟩ := sel_of hg
    refine ⟨ua, rfl, ⟨_, _, _, _, _, _, _, hv⟩, ((h &&& YOf kk : Nat) : Int), last_and e2 hk, fun W'' hb2 hs2 hg2 => ?_⟩
    have hA2 := TyAt.later hb2 f _ _ hA
    have hU2 := hT W'' hs2 hg2
    refine ⟨sub17 2 f W'' ua va _ T hU2 hA2 (small_union 2 _) hS u1 hok fun W3 hb3 => sub_union f W3 va ua T _ h (TyAt.later hb3 f _ _ hA2) (TyAt.later hb3 2 _ _ hU2) hS hok hh ?_ hg h7, ?_⟩
    · rw [Nat.and_comm h, Nat.and_assoc, Nat.and_self]
    · have := kinds18 2 W'' ua _ hU2 (small_union 2 _) u1
      rwa [u2] at this
end Go.Proofs.YtjchnliaglecoaaGreatDoor

/- NarrowSound's law, walked to its end. -/
namespace Go.Proofs.YtjchnliaglecoaaGreatDoor
open Go Go.RowKit Go.Nodes
set_option linter.unusedVariables false
set_option linter.unusedSimpArgs false
theorem kt_world (A : World) (o : Obj) (G : Gro) : A.heap.size ≤ (grow (A.alloc o) G).heap.size ∧ ∀ i, i < A.heap.size → (grow (A.alloc o) G).heap[i]? = A.heap[i]? := by
  have h := ((Below.refl A.heap.size A).alloc (Nat.le_refl _) o).trans ((below_grow (A.alloc o) G).mono (by simp))
  exact ⟨h.size, fun i hi => h.block i hi⟩
theorem alloc_same {w : World} {g : Nat} (h : g < w.heap.size) (o : Obj) : (w.alloc o).heap[g]? = w.heap[g]? := ((Below.refl w.heap.size w).alloc (Nat.le_refl _) o).block g h
set_option maxRecDepth 100000 in
set_option maxHeartbeats 4000000 in
theorem law5_in (f : Nat) (W : World) (va : List Value) (T : Sk) (kk : Int) (k : Nat) (hA : TyAt W f va T) (hS : SmallT f T) (hl : Lib0 W) (hc : countS f T 0 0 ≤ 500) (hok : okT f T = true) (hk : k ≤ 6) :
    Calls Tryz.prog 5 #[.agg va.toArray, .int .i64 kk, .int .i64 (k : Int)] W fun e w' => e = .returned (.bool true) ∧ Below W.heap.size W w' := by
  have HA : Hid (∀ W', Below W.heap.size W W' → Calls Tryz.prog 8 #[] W' fun e w' => e = .returned (.bool true) ∧ Below W'.heap.size W' w') := hid fun W' hb => awake12 W' (hl.later hb)
  have HF : Hid (∀ W', Below W.heap.size W W' → Calls Tryz.prog 14 #[.agg va.toArray] W' fun e w' => e = .returned (.bool true) ∧ Below W'.heap.size W' w') := hid fun W' hb => by
    have := few23 f W' va T (TyAt.later hb f _ _ hA)
    rwa [decide_eq_true hc] at this
  have HR : Hid (∀ W', Below W.heap.size W W' → Calls Tryz.prog 15 #[.agg va.toArray] W' fun e w' => e = .returned (.bool true) ∧ Below W'.heap.size W' w') := hid fun W' hb => by
    have := rcheck15 f W' va T (TyAt.later hb f _ _ hA) hS
    rwa [hok] at this
  obtain ⟨h, e1, e2, _⟩ := kinds_nat hok
  have HK : Hid (∀ W', Below W.heap.size W W' → Calls Tryz.prog 18 #[.agg va.toArray] W' fun e w' => e = .returned (.int .i64 (h : Int)) ∧ Below W'.heap.size W' w') := hid fun W' hb => by
    have := kinds18 f W' va T (TyAt.later hb f _ _ hA) hS hok
    rwa [e1] at this
  have HT : Hid (∀ W', Below W.heap.size W W' → Calls Tryz.prog 16 #[.agg va.toArray, .int .i64 kk] W' fun e w' => Below W'.heap.size W' w' ∧ ∃ k' np' nn' nc' ap' an' ac' m, e = .returned (.agg #[.int .i64 k', .slice np' nn' nc', .slice ap' an' ac']) ∧ Hid (LastW kk h m k) ∧
      Hid (∀ W'', Below W.heap.size W W'' → w'.heap.size ≤ W''.heap.size → (∀ g, W'.heap.size ≤ g → g < w'.heap.size → W''.heap[g]? = w'.heap[g]?) →
        (Calls Tryz.prog 17 #[.agg #[.int .i64 k', .slice np' nn' nc', .slice ap' an' ac'], .agg va.toArray] W'' fun e w3 => e = .returned (.bool true) ∧ Below W''.heap.size W'' w3) ∧ (Calls Tryz.prog 18 #[.agg #[.int .i64 k', .slice np' nn' nc', .slice ap' an' ac']] W'' fun e w3 => e = .returned (.int .i64 m) ∧ Below W''.heap.size W'' w3))) := hid fun W' hb =>
    (ans16 f W W' va T kk h k hb hA hS hl hok e1 hk).mono fun e w' ⟨h1, ua, h2, ⟨k', np, nn, nc, ap, an, ac, hu⟩, m, h3, h4⟩ => by
      subst hu
      exact ⟨h1, k', np, nn, nc, ap, an, ac, m, h2, hid h3, hid h4⟩
  have hk0 : ¬ (k : Int) < 0 := by omega
  have hk6 : ¬ 6 < (k : Int) := by omega
  obtain ⟨q, hq⟩ : ∃ q : Int, q = ((2 ^ k : Nat) : Int) := ⟨_, rfl⟩
  have hpow : wrap64 ((2 : Int) ^ k) = q := by
    rw [hq]
    have : k = 0 ∨ k = 1 ∨ k = 2 ∨ k = 3 ∨ k = 4 ∨ k = 5 ∨ k = 6 := by omega
    rcases this with rfl | rfl | rfl | rfl | rfl | rfl | rfl <;> decide +kernel
  obtain ⟨np, nn, nc, ap, an, ac, rfl, hf1, hf2⟩ := ty_form hA
  generalize skK T = kt at *
  clear hA hl hc hf1 hf2 hS hok e1 e2
  go_enter Tryz.func5, Tryz.ntmps5
  go_wp2_with (first | (go_at_call 8; refine (HA.out _ (by repeat (first | exact Below.refl _ _ | refine bN ?_ _ | refine bD ?_ | refine bG ?_ _ | refine bI ?_ _ _ | refine bA ?_ _))).mono ?_; rintro e w' ⟨rfl, hb⟩; obtain ⟨G, rfl⟩ := bout hb; clear hb) | (go_at_call 14; refine (HF.out _ (by repeat (first | exact Below.refl _ _ | refine bN ?_ _ | refine bD ?_ | refine bG ?_ _ | refine bI ?_ _ _ | refine bA ?_ _))).mono ?_; rintro e w' ⟨rfl, hb⟩; obtain ⟨G, rfl⟩ := bout hb; clear hb) | (go_at_call 15; refine (HR.out _ (by repeat (first | exact Below.refl _ _ | refine bN ?_ _ | refine bD ?_ | refine bG ?_ _ | refine bI ?_ _ _ | refine bA ?_ _))).mono ?_; rintro e w' ⟨rfl, hb⟩; obtain ⟨G, rfl⟩ := bout hb; clear hb) | (go_at_call 16; refine (HT.out _ (by repeat (first | exact Below.refl _ _ | refine bN ?_ _ | refine bD ?_ | refine bG ?_ _ | refine bI ?_ _ _ | refine bA ?_ _))).mono ?_; rintro e w' ⟨hb, k', np', nn', nc', ap', an', ac', m, rfl, KL, KT⟩; obtain ⟨G3, hw3⟩ := bout hb; clear hb; rw [grow_grow] at hw3; subst hw3) | (go_at_call 17; refine ((KT.out _ (by repeat (first | exact Below.refl _ _ | refine bN ?_ _ | refine bD ?_ | refine bG ?_ _ | refine bI ?_ _ _ | refine bA ?_ _)) (by simp) (fun g _ h2 => alloc_same h2 _)).1).mono ?_; rintro e w' ⟨rfl, hb⟩; obtain ⟨G4, rfl⟩ := bout hb; clear hb))
  have hq1 := KL.out
  unfold LastW at hq1
  rw [← hq] at hq1
  clear KL hq
  by_cases ha : bits .and .i64 (h : Int) q = 0
  · go_wp2_with (first | (go_at_call 18; refine (HK.out _ (by repeat (first | exact Below.refl _ _ | refine bN ?_ _ | refine bD ?_ | refine bG ?_ _ | refine bI ?_ _ _ | refine bA ?_ _))).mono ?_; rintro e w' ⟨rfl, hb⟩; obtain ⟨G, rfl⟩ := bout hb; clear hb HK) | (go_at_call 18; refine ((KT.out _ (by repeat (first | exact Below.refl _ _ | refine bN ?_ _ | refine bD ?_ | refine bG ?_ _ | refine bI ?_ _ _ | refine bA ?_ _)) (kt_world _ _ _).1 (fun i _ h => (kt_world _ _ _).2 i h)).2).mono ?_; rintro e w' ⟨rfl, hb⟩; obtain ⟨G, rfl⟩ := bout hb; clear hb))
    go_ret
    exact ⟨rfl, by repeat (first | exact Below.refl _ _ | refine bN ?_ _ | refine bD ?_ | refine bG ?_ _ | refine bI ?_ _ _ | refine bA ?_ _)⟩
  · by_cases hkq : bits .and .i64 kk q = 0
    · go_wp2_with (first | (go_at_call 18; refine (HK.out _ (by repeat (first | exact Below.refl _ _ | refine bN ?_ _ | refine bD ?_ | refine bG ?_ _ | refine bI ?_ _ _ | refine bA ?_ _))).mono ?_; rintro e w' ⟨rfl, hb⟩; obtain ⟨G, rfl⟩ := bout hb; clear hb HK) | (go_at_call 18; refine ((KT.out _ (by repeat (first | exact Below.refl _ _ | refine bN ?_ _ | refine bD ?_ | refine bG ?_ _ | refine bI ?_ _ _ | refine bA ?_ _)) (kt_world _ _ _).1 (fun i _ h => (kt_world _ _ _).2 i h)).2).mono ?_; rintro e w' ⟨rfl, hb⟩; obtain ⟨G, rfl⟩ := bout hb; clear hb))
      go_ret
      exact ⟨rfl, by repeat (first | exact Below.refl _ _ | refine bN ?_ _ | refine bD ?_ | refine bG ?_ _ | refine bI ?_ _ _ | refine bA ?_ _)⟩
    · have hm : bits .and .i64 m q ≠ 0 := by
        rcases hq1 with h | h | h
        · exact absurd h ha
        · exact absurd h hkq
        · exact h
      go_wp2_with (first | (go_at_call 18; refine (HK.out _ (by repeat (first | exact Below.refl _ _ | refine bN ?_ _ | refine bD ?_ | refine bG ?_ _ | refine bI ?_ _ _ | refine bA ?_ _))).mono ?_; rintro e w' ⟨rfl, hb⟩; obtain ⟨G, rfl⟩ := bout hb; clear hb HK) | (go_at_call 18; refine ((KT.out _ (by repeat (first | exact Below.refl _ _ | refine bN ?_ _ | refine bD ?_ | refine bG ?_ _ | refine bI ?_ _ _ | refine bA ?_ _)) (kt_world _ _ _).1 (fun i _ h => (kt_world _ _ _).2 i h)).2).mono ?_; rintro e w' ⟨rfl, hb⟩; obtain ⟨G, rfl⟩ := bout hb; clear hb))
      go_ret
      have hbb : (bits .and .i64 (h : Int) q == 0 || bits .and .i64 kk q == 0 || bits .and .i64 m q != 0) = true := by simp [hm]
      exact ⟨congrArg (fun b => Ending.returned (Value.bool b)) hbb, by repeat (first | exact Below.refl _ _ | refine bN ?_ _ | refine bD ?_ | refine bG ?_ _ | refine bI ?_ _ _ | refine bA ?_ _)⟩
theorem law5_any (f : Nat) (W : World) (va : List Value) (T : Sk) (kk k : Int) (hA : TyAt W f va T) (hS : SmallT f T) (hl : Lib0 W) :
    Calls Tryz.prog 5 #[.agg va.toArray, .int .i64 kk, .int .i64 k] W fun e w' => e = .returned (.bool true) ∧ Below W.heap.size W w' := by
  by_cases hc : countS f T 0 0 ≤ 500
  · cases hok : okT f T with
    | false => exact law5_bad f W va T kk k hA hS hl hc hok
    | true =>
      by_cases hr : k < 0 ∨ 6 < k
      · exact law5_out f W va T kk k hA hS hl hc hok hr
      · obtain ⟨m, rfl⟩ : ∃ m : Nat, k = m := ⟨k.toNat, by omega⟩
        exact law5_in f W va T kk m hA hS hl hc hok (by omega)
  · exact law5_many f W va T kk k hA hl hc
end Go.Proofs.YtjchnliaglecoaaGreatDoor
