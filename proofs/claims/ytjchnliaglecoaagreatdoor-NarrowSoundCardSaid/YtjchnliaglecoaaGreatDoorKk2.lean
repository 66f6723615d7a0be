/- types.Kinds, walked. Conditions: the type may be; the library's variables. -/
import Derived.Deep.RegionHeld3
import Derived.Test.YtjchnliaglecoaaGreatDoorKkX
set_option linter.unusedVariables false
set_option linter.unusedSimpArgs false
namespace Go.Proofs.YtjchnliaglecoaaGreatDoor
open Go Go.RowKit Go.Nodes
set_option linter.unusedVariables false
set_option linter.unusedSimpArgs false
@[go_sem] theorem idx127_0 (w : World) : (Instr.index 127 (.agg #[.int .i64 127, .int .i64 1, .int .i64 2, .int .i64 4, .int .i64 8, .int .i64 16, .int .i64 64]) (.int .i64 0)).run Tryz.prog w = .ok (.int .i64 127) w := by kernel_rfl
@[go_sem] theorem idx127_1 (w : World) : (Instr.index 127 (.agg #[.int .i64 127, .int .i64 1, .int .i64 2, .int .i64 4, .int .i64 8, .int .i64 16, .int .i64 64]) (.int .i64 1)).run Tryz.prog w = .ok (.int .i64 1) w := by kernel_rfl
@[go_sem] theorem idx127_2 (w : World) : (Instr.index 127 (.agg #[.int .i64 127, .int .i64 1, .int .i64 2, .int .i64 4, .int .i64 8, .int .i64 16, .int .i64 64]) (.int .i64 2)).run Tryz.prog w = .ok (.int .i64 2) w := by kernel_rfl
@[go_sem] theorem idx127_3 (w : World) : (Instr.index 127 (.agg #[.int .i64 127, .int .i64 1, .int .i64 2, .int .i64 4, .int .i64 8, .int .i64 16, .int .i64 64]) (.int .i64 3)).run Tryz.prog w = .ok (.int .i64 4) w := by kernel_rfl
@[go_sem] theorem idx127_4 (w : World) : (Instr.index 127 (.agg #[.int .i64 127, .int .i64 1, .int .i64 2, .int .i64 4, .int .i64 8, .int .i64 16, .int .i64 64]) (.int .i64 4)).run Tryz.prog w = .ok (.int .i64 8) w := by kernel_rfl
@[go_sem] theorem idx127_5 (w : World) : (Instr.index 127 (.agg #[.int .i64 127, .int .i64 1, .int .i64 2, .int .i64 4, .int .i64 8, .int .i64 16, .int .i64 64]) (.int .i64 5)).run Tryz.prog w = .ok (.int .i64 16) w := by kernel_rfl
@[go_sem] theorem idx127_6 (w : World) : (Instr.index 127 (.agg #[.int .i64 127, .int .i64 1, .int .i64 2, .int .i64 4, .int .i64 8, .int .i64 16, .int .i64 64]) (.int .i64 6)).run Tryz.prog w = .ok (.int .i64 64) w := by kernel_rfl
set_option maxRecDepth 100000 in
set_option maxHeartbeats 4000000 in
theorem kinds37 (f : Nat) (W : World) (va : List Value) (T : Sk) (hA : TyAt W f va T) (hS : SmallT f T) (hl : Lib0 W) (hok : okT f T = true) :
    Calls Tryz.prog 37 #[.agg va.toArray] W fun e w' => e = .returned (.int .i64 (kindsS T)) ∧ Below W.heap.size W w' := by
  have Hc : Hid (∀ W', Below W.heap.size W W' → Calls Tryz.prog 81 #[.agg va.toArray] W' fun e w2 => e = .returned (.bool true) ∧ Below W'.heap.size W' w2) := hid fun W' hb => check81 f W' va T (TyAt.later hb f _ _ hA) hS (hl.later hb) hok
  obtain ⟨h0, h9, h7u, _⟩ := ok_kind hok
  by_cases h7 : skK T = 7
  · have HU : Hid (∀ j, j < (skA T).length → unionAt 1 (skA T) j = true) := hid fun j hj => by
      have hU := (h7u h7).1
      unfold unionB at hU
      rw [List.all_eq_true] at hU
      exact hU j (List.mem_range.2 hj)
    clear h7u h0 h9
    cases f with
    | zero => exact hA.elim
    | succ f =>
      obtain ⟨k, ns, qs⟩ := T
      obtain ⟨_, l1, l2, np, nc, ap, ac, rfl, hn, ha⟩ := hA
      simp only [skA, skK] at HU h7
      subst h7
      have HR : Hid (kindsS (.mk 7 ns qs) = orL qs 0) := hid rfl
      generalize kindsS (.mk 7 ns qs) = R at *
      have Ha := hid ha
      unfold maxLen at l1 l2
      obtain ⟨u, hu⟩ : ∃ u, u = ns.length := ⟨_, rfl⟩
      obtain ⟨v, hv⟩ : ∃ v, v = qs.length := ⟨_, rfl⟩
      rw [← hu, ← hv] at Hc ⊢
      have p2 : (v : Int) ≤ 9223372036854775807 := by omega
      have Hv := hid hv
      clear hS ha hn l1 l2 hu hv hok hl
      go_enter Tryz.func37, Tryz.ntmps37
      go_wp2_with (go_at_call 81; refine (Hc.out _ (by repeat (first | exact Below.refl _ _ | refine bN ?_ _ | refine bD ?_ | refine bG ?_ _ | refine bI ?_ _ _ | refine bA ?_ _))).mono ?_; rintro e w' ⟨rfl, hb⟩; obtain ⟨G, rfl⟩ := bout hb; clear hb)
      go_loopw [3, 20] (fun nv iv wr => ∃ (i : Nat) (n : Int) (G : Gro), i ≤ v ∧ iv = .int .i64 i ∧ nv = .int .i64 n ∧ wr = grow W G ∧ Hid (orL (qs.drop i) n = R)) (fun _ iv _ => v - (intOf iv).toNat)
      case atStart => exact ⟨0, 0, _, Nat.zero_le _, rfl, rfl, below_grow2 (by repeat (first | exact Below.refl _ _ | refine bN ?_ _ | refine bD ?_ | refine bG ?_ _ | refine bI ?_ _ _ | refine bA ?_ _)), hid HR.out.symm⟩
      case round =>
        obtain ⟨i, n, G2, hi, rfl, rfl, rfl, hI⟩ := hrel
        by_cases hin : i < v
        · have hix : i < qs.length := by have := Hv.out; omega
          have i0 : (0 : Int) ≤ (i : Int) := by omega
          have i1 : (i : Int) < (v : Int) := by omega
          obtain ⟨b1, o1, k2, np2, nn2, nc2, ap2, an2, ac2, rfl, hb1, c0, c1, c2, hT⟩ := ty_cells Ha.out hix
          obtain ⟨t1, t2, t3⟩ := ty_kind hT
          have hU := HU.out i hix
          have hle := (lastK_ge (d := 1) (qs := qs) (i := i) (fun j hj => HU.out j (by omega))).1
          unfold unionAt at hU
          rw [argAt_of hix, t1, t2, t3] at hU
          simp only [Bool.and_eq_true, decide_eq_true_eq] at hU
          obtain ⟨⟨⟨⟨q1, q2⟩, q3⟩, q4⟩, q5⟩ := hU
          have Hd := hid (orL_drop qs i hix n)
          rw [hI.out, t1] at Hd
          have hks : k2 = 1 ∨ k2 = 2 ∨ k2 = 3 ∨ k2 = 4 ∨ k2 = 5 ∨ k2 = 6 := by omega
          clear hT t1 t2 t3 hI hi q1 q2 q3 q4 q5 hle
          rcases hks with rfl | rfl | rfl | rfl | rfl | rfl
          · go_wp2
            go_region_held3 (fun w' => w'.cell? ⟨W.heap.size + G2.size, 0, none⟩ = some (.int .i64 1)) (simp [go_sem])
              (first | (go_at_call 82; refine (bits82 _).mono ?_; rintro e w' ⟨rfl, hb⟩; obtain ⟨G3, rfl⟩ := bout hb; clear hb))
            go_wp2
            go_roundw
            case rel => exact ⟨i + 1, _, _, by omega, by go_num, rfl, below_grow2 (by repeat (first | exact Below.refl _ _ | refine bN ?_ _ | refine bD ?_ | refine bG ?_ _ | refine bI ?_ _ _ | refine bA ?_ _)), hid Hd.out.symm⟩
            case measure => simp [intOf]; omega
          · go_wp2
            go_region_held3 (fun w' => w'.cell? ⟨W.heap.size + G2.size, 0, none⟩ = some (.int .i64 2)) (simp [go_sem])
              (first | (go_at_call 82; refine (bits82 _).mono ?_; rintro e w' ⟨rfl, hb⟩; obtain ⟨G3, rfl⟩ := bout hb; clear hb))
            go_wp2
            go_roundw
            case rel => exact ⟨i + 1, _, _, by omega, by go_num, rfl, below_grow2 (by repeat (first | exact Below.refl _ _ | refine bN ?_ _ | refine bD ?_ | refine bG ?_ _ | refine bI ?_ _ _ | refine bA ?_ _)), hid Hd.out.symm⟩
            case measure => simp [intOf]; omega
          · go_wp2
            go_region_held3 (fun w' => w'.cell? ⟨W.heap.size + G2.size, 0, none⟩ = some (.int .i64 3)) (simp [go_sem])
              (first | (go_at_call 82; refine (bits82 _).mono ?_; rintro e w' ⟨rfl, hb⟩; obtain ⟨G3, rfl⟩ := bout hb; clear hb))
            go_wp2
            go_roundw
            case rel => exact ⟨i + 1, _, _, by omega, by go_num, rfl, below_grow2 (by repeat (first | exact Below.refl _ _ | refine bN ?_ _ | refine bD ?_ | refine bG ?_ _ | refine bI ?_ _ _ | refine bA ?_ _)), hid Hd.out.symm⟩
            case measure => simp [intOf]; omega
          · go_wp2
            go_region_held3 (fun w' => w'.cell? ⟨W.heap.size + G2.size, 0, none⟩ = some (.int .i64 4)) (simp [go_sem])
              (first | (go_at_call 82; refine (bits82 _).mono ?_; rintro e w' ⟨rfl, hb⟩; obtain ⟨G3, rfl⟩ := bout hb; clear hb))
            go_wp2
            go_roundw
            case rel => exact ⟨i + 1, _, _, by omega, by go_num, rfl, below_grow2 (by repeat (first | exact Below.refl _ _ | refine bN ?_ _ | refine bD ?_ | refine bG ?_ _ | refine bI ?_ _ _ | refine bA ?_ _)), hid Hd.out.symm⟩
            case measure => simp [intOf]; omega
          · go_wp2
            go_region_held3 (fun w' => w'.cell? ⟨W.heap.size + G2.size, 0, none⟩ = some (.int .i64 5)) (simp [go_sem])
              (first | (go_at_call 82; refine (bits82 _).mono ?_; rintro e w' ⟨rfl, hb⟩; obtain ⟨G3, rfl⟩ := bout hb; clear hb))
            go_wp2
            go_roundw
            case rel => exact ⟨i + 1, _, _, by omega, by go_num, rfl, below_grow2 (by repeat (first | exact Below.refl _ _ | refine bN ?_ _ | refine bD ?_ | refine bG ?_ _ | refine bI ?_ _ _ | refine bA ?_ _)), hid Hd.out.symm⟩
            case measure => simp [intOf]; omega
          · go_wp2
            go_region_held3 (fun w' => w'.cell? ⟨W.heap.size + G2.size, 0, none⟩ = some (.int .i64 6)) (simp [go_sem])
              (first | (go_at_call 82; refine (bits82 _).mono ?_; rintro e w' ⟨rfl, hb⟩; obtain ⟨G3, rfl⟩ := bout hb; clear hb))
            go_wp2
            go_roundw
            case rel => exact ⟨i + 1, _, _, by omega, by go_num, rfl, below_grow2 (by repeat (first | exact Below.refl _ _ | refine bN ?_ _ | refine bD ?_ | refine bG ?_ _ | refine bI ?_ _ _ | refine bA ?_ _)), hid Hd.out.symm⟩
            case measure => simp [intOf]; omega
        · obtain rfl : i = v := by omega
          have h2 : n = R := by have := hI.out; rw [List.drop_of_length_le (by have := Hv.out; omega)] at this; exact this
          have H2 := hid h2
          clear h2 hI hi hin
          go_wp2
          go_ret
          exact ⟨by rw [← H2.out]; rfl, by repeat (first | exact Below.refl _ _ | refine bN ?_ _ | refine bD ?_ | refine bG ?_ _ | refine bI ?_ _ _ | refine bA ?_ _)⟩
  · clear h7u
    obtain ⟨np, nn, nc, ap, an, ac, rfl, hf1, hf2⟩ := ty_form hA
    have HR : Hid (kindsS T = if skK T = 8 then 16 else if skK T = 9 then 32 else bitK (skK T)) := hid (by unfold kindsS; rw [if_neg h7])
    generalize kindsS T = R at *
    clear hf1 hf2 hA hS hok hl
    generalize skK T = k at *
    by_cases h8 : k = 8
    · subst h8
      obtain rfl : R = 16 := by rw [HR.out]; rfl
      clear HR h0 h9 h7
      go_enter Tryz.func37, Tryz.ntmps37
      go_wp2_with (go_at_call 81; refine (Hc.out _ (by repeat (first | exact Below.refl _ _ | refine bN ?_ _ | refine bD ?_ | refine bG ?_ _ | refine bI ?_ _ _ | refine bA ?_ _))).mono ?_; rintro e w' ⟨rfl, hb⟩; obtain ⟨G, rfl⟩ := bout hb; clear hb)
      go_ret
      exact ⟨rfl, by repeat (first | exact Below.refl _ _ | refine bN ?_ _ | refine bD ?_ | refine bG ?_ _ | refine bI ?_ _ _ | refine bA ?_ _)⟩
    by_cases h9' : k = 9
    · subst h9'
      obtain rfl : R = 32 := by rw [HR.out]; rfl
      clear HR h0 h9 h7 h8
      go_enter Tryz.func37, Tryz.ntmps37
      go_wp2_with (go_at_call 81; refine (Hc.out _ (by repeat (first | exact Below.refl _ _ | refine bN ?_ _ | refine bD ?_ | refine bG ?_ _ | refine bI ?_ _ _ | refine bA ?_ _))).mono ?_; rintro e w' ⟨rfl, hb⟩; obtain ⟨G, rfl⟩ := bout hb; clear hb)
      go_ret
      exact ⟨rfl, by repeat (first | exact Below.refl _ _ | refine bN ?_ _ | refine bD ?_ | refine bG ?_ _ | refine bI ?_ _ _ | refine bA ?_ _)⟩
    have hks : k = 0 ∨ k = 1 ∨ k = 2 ∨ k = 3 ∨ k = 4 ∨ k = 5 ∨ k = 6 := by omega
    clear h0 h9 h7 h8 h9'
    rcases hks with rfl | rfl | rfl | rfl | rfl | rfl | rfl
    · have hr := HR.out
      simp [bitK] at hr
      subst hr
      clear HR
      go_enter Tryz.func37, Tryz.ntmps37
      go_wp2_with (go_at_call 81; refine (Hc.out _ (by repeat (first | exact Below.refl _ _ | refine bN ?_ _ | refine bD ?_ | refine bG ?_ _ | refine bI ?_ _ _ | refine bA ?_ _))).mono ?_; rintro e w' ⟨rfl, hb⟩; obtain ⟨G, rfl⟩ := bout hb; clear hb)
      go_region_held3 (fun w' => w'.cell? ⟨W.heap.size, 0, none⟩ = some (.int .i64 0)) (simp [go_sem])
        (first | (go_at_call 82; refine (bits82 _).mono ?_; rintro e w' ⟨rfl, hb⟩; obtain ⟨G3, rfl⟩ := bout hb; clear hb))
      go_wp2
      go_ret
      exact ⟨rfl, by repeat (first | exact Below.refl _ _ | refine bN ?_ _ | refine bD ?_ | refine bG ?_ _ | refine bI ?_ _ _ | refine bA ?_ _)⟩
    · have hr := HR.out
      simp [bitK] at hr
      subst hr
      clear HR
      go_enter Tryz.func37, Tryz.ntmps37
      go_wp2_with (go_at_call 81; refine (Hc.out _ (by repeat (first | exact Below.refl _ _ | refine bN ?_ _ | refine bD ?_ | refine bG ?_ _ | refine bI ?_ _ _ | refine bA ?_ _))).mono ?_; rintro e w' ⟨rfl, hb⟩; obtain ⟨G, rfl⟩ := bout hb; clear hb)
      go_region_held3 (fun w' => w'.cell? ⟨W.heap.size, 0, none⟩ = some (.int .i64 1)) (simp [go_sem])
        (first | (go_at_call 82; refine (bits82 _).mono ?_; rintro e w' ⟨rfl, hb⟩; obtain ⟨G3, rfl⟩ := bout hb; clear hb))
      go_wp2
      go_ret
      exact ⟨rfl, by repeat (first | exact Below.refl _ _ | refine bN ?_ _ | refine bD ?_ | refine bG ?_ _ | refine bI ?_ _ _ | refine bA ?_ _)⟩
    · have hr := HR.out
      simp [bitK] at hr
      subst hr
      clear HR
      go_enter Tryz.func37, Tryz.ntmps37
      go_wp2_with (go_at_call 81; refine (Hc.out _ (by repeat (first | exact Below.refl _ _ | refine bN ?_ _ | refine bD ?_ | refine bG ?_ _ | refine bI ?_ _ _ | refine bA ?_ _))).mono ?_; rintro e w' ⟨rfl, hb⟩; obtain ⟨G, rfl⟩ := bout hb; clear hb)
      go_region_held3 (fun w' => w'.cell? ⟨W.heap.size, 0, none⟩ = some (.int .i64 2)) (simp [go_sem])
        (first | (go_at_call 82; refine (bits82 _).mono ?_; rintro e w' ⟨rfl, hb⟩; obtain ⟨G3, rfl⟩ := bout hb; clear hb))
      go_wp2
      go_ret
      exact ⟨rfl, by repeat (first | exact Below.refl _ _ | refine bN ?_ _ | refine bD ?_ | refine bG ?_ _ | refine bI ?_ _ _ | refine bA ?_ _)⟩
    · have hr := HR.out
      simp [bitK] at hr
      subst hr
      clear HR
      go_enter Tryz.func37, Tryz.ntmps37
      go_wp2_with (go_at_call 81; refine (Hc.out _ (by repeat (first | exact Below.refl _ _ | refine bN ?_ _ | refine bD ?_ | refine bG ?_ _ | refine bI ?_ _ _ | refine bA ?_ _))).mono ?_; rintro e w' ⟨rfl, hb⟩; obtain ⟨G, rfl⟩ := bout hb; clear hb)
      go_region_held3 (fun w' => w'.cell? ⟨W.heap.size, 0, none⟩ = some (.int .i64 3)) (simp [go_sem])
        (first | (go_at_call 82; refine (bits82 _).mono ?_; rintro e w' ⟨rfl, hb⟩; obtain ⟨G3, rfl⟩ := bout hb; clear hb))
      go_wp2
      go_ret
      exact ⟨rfl, by repeat (first | exact Below.refl _ _ | refine bN ?_ _ | refine bD ?_ | refine bG ?_ _ | refine bI ?_ _ _ | refine bA ?_ _)⟩
    · have hr := HR.out
      simp [bitK] at hr
      subst hr
      clear HR
      go_enter Tryz.func37, Tryz.ntmps37
      go_wp2_with (go_at_call 81; refine (Hc.out _ (by repeat (first | exact Below.refl _ _ | refine bN ?_ _ | refine bD ?_ | refine bG ?_ _ | refine bI ?_ _ _ | refine bA ?_ _))).mono ?_; rintro e w' ⟨rfl, hb⟩; obtain ⟨G, rfl⟩ := bout hb; clear hb)
      go_region_held3 (fun w' => w'.cell? ⟨W.heap.size, 0, none⟩ = some (.int .i64 4)) (simp [go_sem])
        (first | (go_at_call 82; refine (bits82 _).mono ?_; rintro e w' ⟨rfl, hb⟩; obtain ⟨G3, rfl⟩ := bout hb; clear hb))
      go_wp2
      go_ret
      exact ⟨rfl, by repeat (first | exact Below.refl _ _ | refine bN ?_ _ | refine bD ?_ | refine bG ?_ _ | refine bI ?_ _ _ | refine bA ?_ _)⟩
    · have hr := HR.out
      simp [bitK] at hr
      subst hr
      clear HR
      go_enter Tryz.func37, Tryz.ntmps37
      go_wp2_with (go_at_call 81; refine (Hc.out _ (by repeat (first | exact Below.refl _ _ | refine bN ?_ _ | refine bD ?_ | refine bG ?_ _ | refine bI ?_ _ _ | refine bA ?_ _))).mono ?_; rintro e w' ⟨rfl, hb⟩; obtain ⟨G, rfl⟩ := bout hb; clear hb)
      go_region_held3 (fun w' => w'.cell? ⟨W.heap.size, 0, none⟩ = some (.int .i64 5)) (simp [go_sem])
        (first | (go_at_call 82; refine (bits82 _).mono ?_; rintro e w' ⟨rfl, hb⟩; obtain ⟨G3, rfl⟩ := bout hb; clear hb))
      go_wp2
      go_ret
      exact ⟨rfl, by repeat (first | exact Below.refl _ _ | refine bN ?_ _ | refine bD ?_ | refine bG ?_ _ | refine bI ?_ _ _ | refine bA ?_ _)⟩
    · have hr := HR.out
      simp [bitK] at hr
      subst hr
      clear HR
      go_enter Tryz.func37, Tryz.ntmps37
      go_wp2_with (go_at_call 81; refine (Hc.out _ (by repeat (first | exact Below.refl _ _ | refine bN ?_ _ | refine bD ?_ | refine bG ?_ _ | refine bI ?_ _ _ | refine bA ?_ _))).mono ?_; rintro e w' ⟨rfl, hb⟩; obtain ⟨G, rfl⟩ := bout hb; clear hb)
      go_region_held3 (fun w' => w'.cell? ⟨W.heap.size, 0, none⟩ = some (.int .i64 6)) (simp [go_sem])
        (first | (go_at_call 82; refine (bits82 _).mono ?_; rintro e w' ⟨rfl, hb⟩; obtain ⟨G3, rfl⟩ := bout hb; clear hb))
      go_wp2
      go_ret
      exact ⟨rfl, by repeat (first | exact Below.refl _ _ | refine bN ?_ _ | refine bD ?_ | refine bG ?_ _ | refine bI ?_ _ _ | refine bA ?_ _)⟩
end Go.Proofs.YtjchnliaglecoaaGreatDoor
