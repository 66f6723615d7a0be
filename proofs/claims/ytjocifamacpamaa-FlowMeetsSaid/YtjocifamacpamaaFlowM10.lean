/- FlowMeets: who goes on from each word to the nearest place that all its ways have comes to the end. Conditions: none. -/
import Derived.Test.YtjocifamacpamaaFlowM9
namespace Go.Proofs.Ytjocifamacpamaa
open Go.ChangeShapes Go.WideShapes Go.ChangeAt Go.RowKit
set_option linter.unusedVariables false
set_option linter.unusedSimpArgs false
/-- From one nearest place to the next less and less lies behind. -/
theorem chain_ex {nx : Nat → List Int} {len : Nat} (hlen : len ≤ 64) (hnx : ∀ i, ∀ x ∈ nx i, -1 ≤ x ∧ x < len) (hn2 : ∀ i, (nx i).length ≤ 2) :
    ∃ c : Nat → Nat, (∀ n, c n ≤ len) ∧ (∀ n : Nat, n < len → Way nx (-2) n (-1) → 1 ≤ c n ∧ (postS nx len n = -1 ∨ ∃ d : Nat, postS nx len n = d ∧ d < len ∧ d ≠ n ∧ Way nx (-2) d (-1) ∧ c d < c n)) := by
  have hnx1 : ∀ i, ∀ x ∈ nx i, -1 ≤ x := fun i x hx => (hnx i x hx).1
  obtain ⟨_, _, F, _, _, _, hD⟩ := done_any nx hlen hnx hn2
  have hbits := hD.good.bits hD.few hD.nxs hD.fix
  refine ⟨fun n => manyS ((F.getD n none).getD 0) len, fun n => manyS_le _ _, fun n hn hw => ⟨?_, ?_⟩⟩
  · have := filter_lt len (fun _ => false) (fun i => ((F.getD n none).getD 0).testBit i) (fun i _ h => by cases h) n hn ((hbits n n hn hn hw).2 (Pd.self _)) rfl
    show 1 ≤ ((List.range len).filter fun i => ((F.getD n none).getD 0).testBit i).length
    omega
  · rcases postS_alt nx len n with h | ⟨_, hd⟩
    · exact .inl h
    · right
      generalize postS nx len n = d at hd
      obtain ⟨k, rfl⟩ : ∃ k : Nat, d = k := ⟨d.toNat, by have := hd.lo; omega⟩
      have hk : k < len := by have := hd.hi; omega
      have hkn : k ≠ n := by have := hd.ne; omega
      have hwk := Pd.ends hnx1 (by omega) hw hd.pd
      refine ⟨k, rfl, hk, hkn, hwk, ?_⟩
      exact filter_lt len (fun i => ((F.getD k none).getD 0).testBit i) (fun i => ((F.getD n none).getD 0).testBit i) (fun i hi hp => (hbits n i hn hi hw).2 (((hbits k i hk hi hwk).1 hp).trans hd.pd)) n hn
        ((hbits n n hn hn hw).2 (Pd.self _)) (by
          cases e : ((F.getD k none).getD 0).testBit n
          · rfl
          · exact (Pd.anti (m := n) (d := k) (by omega) (by omega) (by omega) hwk ((hbits k n hk hn hwk).1 e) hd.pd).elim)
set_option maxHeartbeats 4000000 in
theorem fmeets_many (v0 v1 v3 v4 v5 : Value) (p : Option Addr) (len cap : Nat) (i : Int) (hl : 40 < len) (w : World) :
    Calls Try.prog 10 #[.agg #[v0, v1, .slice p len cap, v3, v4, v5], .int .i64 i] w fun e w' => e = .returned (.bool true) ∧ Below w.heap.size w w' := by
  have hf := fun w1 => few_any v0 v1 v3 v4 v5 p len cap w1
  rw [show decide ((len : Int) ≤ 40) = false by simp; omega] at hf
  have Hf := hid hf
  clear hf
  go_enter Try.func10, Try.ntmps10
  go_wp2_with (first | (go_at_call 21; refine (awake18 _).mono ?_; rintro e w' ⟨rfl, hb⟩; obtain ⟨g1, rfl⟩ := bout hb; clear hb) | (go_at_call 22; refine (Hf.out _).mono ?_; rintro e w' ⟨rfl, hb⟩; obtain ⟨g2, rfl⟩ := bout hb; clear hb))
  go_ret
  exact ⟨rfl, by repeat (first | exact Below.refl _ _ | refine bG ?_ _ | refine bI ?_ _ _ | refine bA ?_ _)⟩
set_option maxHeartbeats 4000000 in
theorem fmeets_out (v0 v1 v3 v4 v5 : Value) (p : Option Addr) (len cap : Nat) (i : Int) (hi : i < 0 ∨ (len : Int) ≤ i) (w : World) :
    Calls Try.prog 10 #[.agg #[v0, v1, .slice p len cap, v3, v4, v5], .int .i64 i] w fun e w' => e = .returned (.bool true) ∧ Below w.heap.size w w' := by
  by_cases hl : len ≤ 40
  · have hf := fun w1 => few_any v0 v1 v3 v4 v5 p len cap w1
    rw [show decide ((len : Int) ≤ 40) = true by simp; omega] at hf
    have Hf := hid hf
    clear hf
    by_cases h0 : i < 0
    · clear hi
      go_enter Try.func10, Try.ntmps10
      go_wp2_with (first | (go_at_call 21; refine (awake18 _).mono ?_; rintro e w' ⟨rfl, hb⟩; obtain ⟨g1, rfl⟩ := bout hb; clear hb) | (go_at_call 22; refine (Hf.out _).mono ?_; rintro e w' ⟨rfl, hb⟩; obtain ⟨g2, rfl⟩ := bout hb; clear hb))
      go_ret
      exact ⟨rfl, by repeat (first | exact Below.refl _ _ | refine bG ?_ _ | refine bI ?_ _ _ | refine bA ?_ _)⟩
    · have h1 : (len : Int) ≤ i := by omega
      clear hi
      go_enter Try.func10, Try.ntmps10
      go_wp2_with (first | (go_at_call 21; refine (awake18 _).mono ?_; rintro e w' ⟨rfl, hb⟩; obtain ⟨g1, rfl⟩ := bout hb; clear hb) | (go_at_call 22; refine (Hf.out _).mono ?_; rintro e w' ⟨rfl, hb⟩; obtain ⟨g2, rfl⟩ := bout hb; clear hb))
      go_ret
      exact ⟨rfl, by repeat (first | exact Below.refl _ _ | refine bG ?_ _ | refine bI ?_ _ _ | refine bA ?_ _)⟩
  · exact fmeets_many v0 v1 v3 v4 v5 p len cap i (by omega) w
set_option maxRecDepth 10000 in
set_option maxHeartbeats 8000000 in
theorem fmeets_in (v0 v1 v3 v4 v5 : Value) (p : Option Addr) (len cap : Nat) (ws : Nat → Int) (a : Nat) (ha : a < len) (w : World) (hw : Wds w.heap.size w p len ws) :
    Calls Try.prog 10 #[.agg #[v0, v1, .slice p len cap, v3, v4, v5], .int .i64 a] w fun e w' => e = .returned (.bool true) ∧ Below w.heap.size w w' := by
  have hl := hw.few
  have hf := fun w1 => few_any v0 v1 v3 v4 v5 p len cap w1
  rw [show decide ((len : Int) ≤ 40) = true by simp; omega] at hf
  have Hf := hid hf
  clear hf
  have hnx : ∀ i, ∀ x ∈ nxW len ws i, -1 ≤ x ∧ x < len := fun i x hx => nextS_in len (ws i) i x hx
  obtain ⟨c, hc1, hc2⟩ := chain_ex (by omega) hnx (fun i => nextS_len len (ws i) i)
  have Hp : Hid (∀ w1, Below w.heap.size w w1 → Calls Try.prog 26 #[.agg #[v0, v1, .slice p len cap, v3, v4, v5]] w1 fun e w' => ∃ v, e = .returned v ∧ Below w1.heap.size w1 w' ∧ Ints 0 w' v ((List.range len).map fun i : Nat => postS (nxW len ws) len i)) :=
    hid fun w1 h => (posts_any v0 v1 v3 v4 v5 p len cap ws w1 (hw.up h h.size)).mono fun e w' ⟨v, he, h3, h4⟩ => ⟨v, he, h3, Ints_base' h4 (Nat.zero_le _)⟩
  have hPl : ((List.range len).map fun i : Nat => postS (nxW len ws) len i).length = len := by simp
  have hPa : ∀ (n : Nat) (h : n < ((List.range len).map fun i : Nat => postS (nxW len ws) len i).length), ((List.range len).map fun i : Nat => postS (nxW len ws) len i)[n] = postS (nxW len ws) len n := fun n h => by simp
  have hz : postS (nxW len ws) len a = -1 ∨ Way (nxW len ws) (-2) a (-1) := (postS_alt _ _ _).imp id fun h => h.1
  have Hc1 := hid hc1
  have Hc2 := hid hc2
  have HPa := hid hPa
  clear hPa hnx hw hc1 hc2
  generalize ((List.range len).map fun i : Nat => postS (nxW len ws) len i) = P at *
  have ha1 : (a : Int) < (len : Int) := by omega
  go_enter Try.func10, Try.ntmps10
  go_wp2_with (first | (go_at_call 21; refine (awake18 _).mono ?_; rintro e w' ⟨rfl, hb⟩; obtain ⟨g1, rfl⟩ := bout hb; clear hb) | (go_at_call 22; refine (Hf.out _).mono ?_; rintro e w' ⟨rfl, hb⟩; obtain ⟨g2, rfl⟩ := bout hb; clear hb) | (go_at_call 26; ((with_reducible refine (Hp.out _ (by repeat (first | exact Below.refl _ _ | refine bG ?_ _ | refine bI ?_ _ _ | refine bA ?_ _ | refine bD ?_ | refine bN ?_ _))).mono ?_); rintro e w' ⟨y, rfl, hb, hy⟩); obtain ⟨g4, rfl⟩ := bout hb; clear hb))
  simp only [grow_grow] at hy ⊢
  have hb3 : Below w.heap.size w (grow (w.alloc (.cells #[v0, v1, .slice p len cap, v3, v4, v5] 48)) ((g1.app g2).app g4)) := by
    repeat (first | exact Below.refl _ _ | refine bG ?_ _ | refine bI ?_ _ _ | refine bA ?_ _)
  have hc2 : (grow (w.alloc (.cells #[v0, v1, .slice p len cap, v3, v4, v5] 48)) ((g1.app g2).app g4)).cell? ⟨w.heap.size, 2, none⟩ = some (.slice p len cap) := by simp [go_sem]
  obtain ⟨py, cy, rfl, hpy⟩ := hy.out
  obtain ⟨bY, oy, rfl, _, _, hcy⟩ := hpy (fun e => by subst e; simp at hPl; omega)
  have hcz : ∀ n : Nat, n < len → (grow (w.alloc (.cells #[v0, v1, .slice p len cap, v3, v4, v5] 48)) ((g1.app g2).app g4)).cell? ⟨bY, oy + n, none⟩ = some (.int .i64 (postS (nxW len ws) len n)) := fun n hn => by
    rw [hcy n (by omega), HPa.out n (by omega)]
  have hza := hcz a ha
  rw [hPl]
  have Hb3 := hid hb3
  have Hcz := hid hcz
  clear hb3 hy hpy hcy HPa hPl hcz Hp Hf
  generalize grow (w.alloc (.cells #[v0, v1, .slice p len cap, v3, v4, v5] 48)) ((g1.app g2).app g4) = W at *
  have hlen : ((len : Int) != (len : Int)) = false := by simp
  rcases hz with hz | hwa
  · rw [hz] at hza
    clear hz
    have hne : ((-1 : Int) == (a : Int)) = false := by rw [beq_eq_false_iff_ne]; omega
    have hd1 : decide ((-1 : Int) < -1) = false := by decide
    have hd2 : decide ((len : Int) ≤ -1) = false := by simp; omega
    go_wp2
    go_quiet (fail)
    go_wp2
    go_ret
    exact ⟨rfl, bN Hb3.out _⟩
  · obtain ⟨_, h1 | ⟨d, h1, hd, hda, _⟩⟩ := Hc2.out a ha hwa
    · rw [h1] at hza
      clear h1
      have hne : ((-1 : Int) == (a : Int)) = false := by rw [beq_eq_false_iff_ne]; omega
      have hd1 : decide ((-1 : Int) < -1) = false := by decide
      have hd2 : decide ((len : Int) ≤ -1) = false := by simp; omega
      go_wp2
      go_quiet (fail)
      go_wp2
      go_ret
      exact ⟨rfl, bN Hb3.out _⟩
    · rw [h1] at hza
      clear h1
      have hne : ((d : Int) == (a : Int)) = false := by rw [beq_eq_false_iff_ne]; omega
      have hd1 : decide ((d : Int) < -1) = false := by rw [decide_eq_false_iff_not]; omega
      have hd2 : decide ((len : Int) ≤ (d : Int)) = false := by simp; omega
      have hd3 : ((d : Int) == -1) = false := by rw [beq_eq_false_iff_ne]; omega
      go_wp2
      go_quiet (fail)
      go_wp2
      go_loop [6, 7] (fun nv iv => ∃ (i : Nat) (n : Int), i ≤ len ∧ iv = .int .i64 i ∧ nv = .int .i64 n ∧ Hid (n = -1 ∨ ∃ k : Nat, n = k ∧ k < len ∧ Way (nxW len ws) (-2) k (-1) ∧ c k + i ≤ len)) (fun _ iv => len - (intOf iv).toNat)
      case atStart => exact ⟨0, a, by omega, rfl, rfl, hid (.inr ⟨a, rfl, ha, hwa, Hc1.out a⟩)⟩
      case round =>
        obtain ⟨i, n, hi, rfl, rfl, Hn⟩ := hrel
        rcases Hn.out with hn | ⟨k, hn, hk, hwk, hck⟩
        · subst hn
          go_wp2
          go_ret
          exact ⟨rfl, bN Hb3.out _⟩
        · subst hn
          obtain ⟨hc1, hnext⟩ := Hc2.out k hk hwk
          have hil : i < len := by omega
          have hk0 : ((k : Int) == -1) = false := by rw [beq_eq_false_iff_ne]; omega
          have hk1 : (k : Int) < (len : Int) := by omega
          have hcell := Hcz.out k hk
          have Hnext := hid hnext
          clear hnext
          generalize postS (nxW len ws) len k = z at *
          go_wp2
          go_round
          case rel =>
            refine ⟨i + 1, z, by omega, by go_num, rfl, hid ?_⟩
            rcases Hnext.out with h | ⟨d', h, h2, _, h3, h4⟩
            · exact .inl h
            · exact .inr ⟨d', h, h2, h3, by omega⟩
          case measure => simp [intOf]; omega
theorem flowMeets_any (v0 v1 v3 v4 v5 : Value) (p : Option Addr) (xs : List Int) (cap : Nat) (i : Int) (w : World) (hw : WordsAt w p xs) :
    Calls Try.prog 10 #[.agg #[v0, v1, .slice p xs.length cap, v3, v4, v5], .int .i64 i] w fun e w' => e = .returned (.bool true) ∧ Below w.heap.size w w' := by
  by_cases hl : xs.length ≤ 40
  · by_cases hi : 0 ≤ i ∧ i < xs.length
    · obtain ⟨a, rfl⟩ : ∃ n : Nat, i = n := ⟨i.toNat, by omega⟩
      exact fmeets_in v0 v1 v3 v4 v5 p xs.length cap _ a (by omega) w (hw.wds hl)
    · exact fmeets_out v0 v1 v3 v4 v5 p xs.length cap i (by omega) w
  · exact fmeets_many v0 v1 v3 v4 v5 p xs.length cap i (by omega) w
set_option maxRecDepth 100000 in
theorem flowMeets_lifted (os : Os) (started : os.Started) (H : Type) (enc : TypeId × Value → H) :
    ReturnsInHanded {} Try.checked os 10 .any (Rows.flowMeetsSpec.pre6 enc Try.prog Try.f10 Rows.flowMeetsRow.domain false) (Rows.flowMeetsSpec.post enc Try.prog Try.f10 false true false false) := by
  refine returnsInHanded_of_change (C := Try.checked) Try.own started (by kernel_rfl) Try.func10
    (ChangeSpec.witness6 (enc := enc) (C := Try.checked) false ⟨#[], #[.agg #[.slice none 0 0, .int .i64 0, .slice none 0 0, .slice none 0 0, .slice none 0 0, .slice none 0 0], .int .i64 0], []⟩ 8 (by kernel_rfl) (by kernel_rfl) (by kernel_rfl) (by kernel_rfl)) ?_
  intro W base args ds gs before hval0 hW hcnd _
  have hval : ∀ (j : Nat) t v, Try.f10.params[j]? = some t → args[j]? = some v → Value.okWide Try.prog W .any base t v := hval0
  have hW' := hW
  obtain ⟨p, q, hA0, hV, rfl, hfz, hnd⟩ := hW
  have hA : DataW.TrodAll enc Try.prog W 0 (fun _ => true) true Try.f10.params.toList args.toList ds p := hA0
  rw [Try.params10] at hA hval
  obtain ⟨v0, v1, d0, d1, p0, p1, rfl, rfl, rfl, h0, h1⟩ := trodAll_two hA
  obtain ⟨i, rfl⟩ := okWide_int Try.underlying3 (hval 1 3 v1 rfl rfl)
  obtain ⟨x0, x1, x3, x4, x5, p, len, cap, xs, rfl, rfl, hxs⟩ := open_proto (hval 0 48 v0 rfl rfl) h0
  exact law_close Try.laidOut (by kernel_rfl) rfl rfl Try.underlying4 hW' ⟨rfl, rfl, rfl⟩ (flowMeets_any x0 x1 x3 x4 x5 p xs cap i W hxs)
theorem flowMeets_holds : Rows.FlowMeetsSaid :=
  OpenClaim.holds_of_wide 10 Try.f10 rfl rfl rfl rfl rfl rfl rfl ⟨rfl, rfl, rfl, rfl, rfl⟩ rfl rfl rfl rfl rfl (by kernel_rfl) Try.func10 (by kernel_rfl)
    (of_decide_eq_true (by kernel_rfl)) (by unfold Func.isWrapper; first | (rw [if_pos (by decide +kernel)]; kernel_rfl) | (rw [if_neg (by decide +kernel)]; exact ⟨rfl, rfl⟩))
    (fun os started H enc _ => flowMeets_lifted os started H enc)
#print axioms flowMeets_holds
end Go.Proofs.Ytjocifamacpamaa
