/- FlowOne: a word that leads to one place alone has that as its nearest, if a way leads on to the end. Conditions: none. -/
import Derived.Deep.RegionHeld3
import Derived.Outline
import Derived.Test.YtjocifamacpamaaFlowWb
import Derived.Test.YtjocifamacpamaaFlowP
namespace Go.Proofs.Ytjocifamacpamaa
open Go.ChangeShapes Go.WideShapes Go.ChangeAt Go.RowKit
set_option linter.unusedVariables false
set_option linter.unusedSimpArgs false
theorem one_post {nx : Nat → List Int} {len : Nat} (hnx : ∀ i, ∀ x ∈ nx i, -1 ≤ x ∧ x < len) {a : Nat} (ha : a < len) {b : Int} (hb : nx a = [b]) (hba : b ≠ a) : postS nx len a = b ∨ postS nx len a = -1 := by
  have hnx1 : ∀ i, ∀ x ∈ nx i, -1 ≤ x := fun i x hx => (hnx i x hx).1
  have hbm : b ∈ nx ((a : Int).toNat) := by simp [hb]
  rcases postS_alt nx len a with h | ⟨hw, hd⟩
  · exact .inr h
  · left
    generalize postS nx len a = d at hd
    have hbl := hnx a b (by simpa using hbm)
    by_cases hb1 : b = -1
    · subst hb1
      have hlo := hd.lo
      exact absurd (Way.step (fun e => hd.ne e.symm) (by omega) hbm (.here (by omega))) hd.pd
    · have hpb : Pd nx b a := fun w => by
        cases w with
        | @step _ e _ h1 h2 h3 h4 =>
          have he : e = b := by simpa [hb] using h3
          rw [he] at h4
          exact h4.left rfl
      by_cases hdb : d = b
      · exact hdb
      · have h1 := hd.far b (by omega) (by omega) hba hpb
        have h2 := hd.pd.next (fun e => hd.ne e.symm) (by omega) hbm
        exact (Pd.anti (fun e => hdb e.symm) (by omega) hd.lo (Pd.ends hnx1 (by have := hd.lo; omega) hw hd.pd) h1 h2).elim
theorem WordsAt.wds {W : World} {p : Option Addr} {xs : List Int} (h : WordsAt W p xs) (hl : xs.length ≤ 40) : Wds W.heap.size W p xs.length (fun i => xs.getD i 0) := by
  obtain ⟨h1, h2⟩ := h
  refine ⟨hl, fun i hi => ?_, fun h0 => ?_⟩
  · have := h1 xs[i] (List.getElem_mem hi)
    simpa [List.getD, hi] using this
  · rcases h2 with rfl | ⟨b, o, rfl, hb, hc⟩
    · simp at h0
    · exact ⟨b, o, rfl, hb, fun i hi => by rw [hc i hi]; simp [List.getD, hi]⟩
set_option maxHeartbeats 4000000 in
theorem fone_many (v0 v1 v3 v4 v5 : Value) (p : Option Addr) (len cap : Nat) (i : Int) (hl : 40 < len) (w : World) :
    Calls Try.prog 9 #[.agg #[v0, v1, .slice p len cap, v3, v4, v5], .int .i64 i] w fun e w' => e = .returned (.bool true) ∧ Below w.heap.size w w' := by
  have hf := fun w1 => few_any v0 v1 v3 v4 v5 p len cap w1
  rw [show decide ((len : Int) ≤ 40) = false by simp; omega] at hf
  have Hf := hid hf
  clear hf
  go_enter Try.func9, Try.ntmps9
  go_wp2_with (first | (go_at_call 21; refine (awake18 _).mono ?_; rintro e w' ⟨rfl, hb⟩; obtain ⟨g1, rfl⟩ := bout hb; clear hb) | (go_at_call 22; refine (Hf.out _).mono ?_; rintro e w' ⟨rfl, hb⟩; obtain ⟨g2, rfl⟩ := bout hb; clear hb))
  go_ret
  exact ⟨rfl, by repeat (first | exact Below.refl _ _ | refine bG ?_ _ | refine bI ?_ _ _ | refine bA ?_ _)⟩
set_option maxHeartbeats 4000000 in
theorem fone_out (v0 v1 v3 v4 v5 : Value) (p : Option Addr) (len cap : Nat) (i : Int) (hi : i < 0 ∨ (len : Int) ≤ i) (w : World) :
    Calls Try.prog 9 #[.agg #[v0, v1, .slice p len cap, v3, v4, v5], .int .i64 i] w fun e w' => e = .returned (.bool true) ∧ Below w.heap.size w w' := by
  by_cases hl : len ≤ 40
  · have hf := fun w1 => few_any v0 v1 v3 v4 v5 p len cap w1
    rw [show decide ((len : Int) ≤ 40) = true by simp; omega] at hf
    have Hf := hid hf
    clear hf
    by_cases h0 : i < 0
    · clear hi
      go_enter Try.func9, Try.ntmps9
      go_wp2_with (first | (go_at_call 21; refine (awake18 _).mono ?_; rintro e w' ⟨rfl, hb⟩; obtain ⟨g1, rfl⟩ := bout hb; clear hb) | (go_at_call 22; refine (Hf.out _).mono ?_; rintro e w' ⟨rfl, hb⟩; obtain ⟨g2, rfl⟩ := bout hb; clear hb))
      go_ret
      exact ⟨rfl, by repeat (first | exact Below.refl _ _ | refine bG ?_ _ | refine bI ?_ _ _ | refine bA ?_ _)⟩
    · have h1 : (len : Int) ≤ i := by omega
      clear hi
      go_enter Try.func9, Try.ntmps9
      go_wp2_with (first | (go_at_call 21; refine (awake18 _).mono ?_; rintro e w' ⟨rfl, hb⟩; obtain ⟨g1, rfl⟩ := bout hb; clear hb) | (go_at_call 22; refine (Hf.out _).mono ?_; rintro e w' ⟨rfl, hb⟩; obtain ⟨g2, rfl⟩ := bout hb; clear hb))
      go_ret
      exact ⟨rfl, by repeat (first | exact Below.refl _ _ | refine bG ?_ _ | refine bI ?_ _ _ | refine bA ?_ _)⟩
  · exact fone_many v0 v1 v3 v4 v5 p len cap i (by omega) w
set_option maxRecDepth 10000 in
set_option maxHeartbeats 8000000 in
theorem fone_in (v0 v1 v3 v4 v5 : Value) (p : Option Addr) (len cap : Nat) (ws : Nat → Int) (a : Nat) (ha : a < len) (w : World) (hw : Wds w.heap.size w p len ws) :
    Calls Try.prog 9 #[.agg #[v0, v1, .slice p len cap, v3, v4, v5], .int .i64 a] w fun e w' => e = .returned (.bool true) ∧ Below w.heap.size w w' := by
  have hl := hw.few
  have hf := fun w1 => few_any v0 v1 v3 v4 v5 p len cap w1
  rw [show decide ((len : Int) ≤ 40) = true by simp; omega] at hf
  have Hf := hid hf
  clear hf
  have hnx : ∀ i, ∀ x ∈ nxW len ws i, -1 ≤ x ∧ x < len := fun i x hx => nextS_in len (ws i) i x hx
  have Hn : Hid (∀ w1, Below w.heap.size w w1 → Calls Try.prog 24 #[.agg #[v0, v1, .slice p len cap, v3, v4, v5], .int .i64 a] w1 fun e w' => ∃ v, e = .returned v ∧ Below w1.heap.size w1 w' ∧ Ints 0 w' v (nxW len ws a)) :=
    hid fun w1 h => ((hw.up h h.size).next v0 v1 v3 v4 v5 cap a ha (Nat.le_refl _)).mono fun e w' ⟨v, he, h3, h4⟩ => ⟨v, he, h3, Ints_base' h4 (Nat.zero_le _)⟩
  have Hp : Hid (∀ w1, Below w.heap.size w w1 → Calls Try.prog 26 #[.agg #[v0, v1, .slice p len cap, v3, v4, v5]] w1 fun e w' => ∃ v, e = .returned v ∧ Below w1.heap.size w1 w' ∧ Ints 0 w' v ((List.range len).map fun i : Nat => postS (nxW len ws) len i)) :=
    hid fun w1 h => (posts_any v0 v1 v3 v4 v5 p len cap ws w1 (hw.up h h.size)).mono fun e w' ⟨v, he, h3, h4⟩ => ⟨v, he, h3, Ints_base' h4 (Nat.zero_le _)⟩
  have hone : ∀ b : Int, nxW len ws a = [b] → b ≠ a → postS (nxW len ws) len a = b ∨ postS (nxW len ws) len a = -1 := fun b h1 h2 => one_post hnx ha h1 h2
  have hPl : ((List.range len).map fun i : Nat => postS (nxW len ws) len i).length = len := by simp
  have hPa : ∀ h : a < ((List.range len).map fun i : Nat => postS (nxW len ws) len i).length, ((List.range len).map fun i : Nat => postS (nxW len ws) len i)[a] = postS (nxW len ws) len a := fun h => by simp
  have hL2 : (nxW len ws a).length ≤ 2 := nextS_len len (ws a) a
  have hL0 : nxW len ws a ≠ [] := nextS_ne len (ws a) a
  have Hone := hid hone
  have HPa := hid hPa
  clear hone hPa hnx hw
  generalize ((List.range len).map fun i : Nat => postS (nxW len ws) len i) = P at *
  generalize postS (nxW len ws) len a = z at *
  generalize nxW len ws a = L at *
  have ha1 : (a : Int) < (len : Int) := by omega
  go_enter Try.func9, Try.ntmps9
  go_wp2_with (first | (go_at_call 21; refine (awake18 _).mono ?_; rintro e w' ⟨rfl, hb⟩; obtain ⟨g1, rfl⟩ := bout hb; clear hb) | (go_at_call 22; refine (Hf.out _).mono ?_; rintro e w' ⟨rfl, hb⟩; obtain ⟨g2, rfl⟩ := bout hb; clear hb))
  go_region_held3 (fun w' => w'.cell? ⟨w.heap.size, 0, none⟩ = some v0 ∧ w'.cell? ⟨w.heap.size, 1, none⟩ = some v1 ∧ w'.cell? ⟨w.heap.size, 2, none⟩ = some (.slice p len cap) ∧ w'.cell? ⟨w.heap.size, 3, none⟩ = some v3 ∧ w'.cell? ⟨w.heap.size, 4, none⟩ = some v4 ∧ w'.cell? ⟨w.heap.size, 5, none⟩ = some v5) (simp [go_sem])
    (first
      | (go_at_call 24; ((with_reducible refine (Hn.out _ (by repeat (first | exact Below.refl _ _ | refine bG ?_ _ | refine bI ?_ _ _ | refine bA ?_ _ | refine bD ?_ | refine bN ?_ _))).mono ?_); rintro e w' ⟨x, rfl, hb, hx⟩); obtain ⟨g3, rfl⟩ := bout hb; clear hb)
      | (go_at_call 26; ((with_reducible refine (Hp.out _ (by repeat (first | exact Below.refl _ _ | refine bG ?_ _ | refine bI ?_ _ _ | refine bA ?_ _ | refine bD ?_ | refine bN ?_ _))).mono ?_); rintro e w' ⟨y, rfl, hb, hy⟩); obtain ⟨g4, rfl⟩ := bout hb; clear hb))
  have hx2 := Ints_below hx (bG (Below.refl _ _) g4)
  clear hx
  simp only [grow_grow, grow_drew] at hx2 hy
  have hb3 : Below w.heap.size w (grow (w.alloc (.cells #[v0, v1, .slice p len cap, v3, v4, v5] 48)) (((g1.app g2).app g3).app g4)) := by
    repeat (first | exact Below.refl _ _ | refine bG ?_ _ | refine bI ?_ _ _ | refine bA ?_ _)
  have hc2 : (grow (w.alloc (.cells #[v0, v1, .slice p len cap, v3, v4, v5] 48)) (((g1.app g2).app g3).app g4)).cell? ⟨w.heap.size, 2, none⟩ = some (.slice p len cap) := by simp [go_sem]
  obtain ⟨px, cx, rfl, hpx⟩ := hx2.out
  obtain ⟨py, cy, rfl, hpy⟩ := hy.out
  obtain ⟨bx, ox, rfl, _, _, hcx⟩ := hpx hL0
  obtain ⟨bY, oy, rfl, _, _, hcy⟩ := hpy (fun e => by subst e; simp at hPl; omega)
  have hza := hcy a (by omega)
  rw [HPa.out] at hza
  rw [hPl]
  have Hb3 := hid hb3
  clear hb3 hx2 hy hpx hpy hcy HPa hPl
  generalize grow (w.alloc (.cells #[v0, v1, .slice p len cap, v3, v4, v5] 48)) (((g1.app g2).app g3).app g4) = W at *
  have hlen : ((len : Int) != (len : Int)) = false := by simp
  have hlen2 : ((len : Int) == (len : Int)) = true := by simp
  rcases L with _ | ⟨b, _ | ⟨c, _ | ⟨d, L⟩⟩⟩
  · exact absurd rfl hL0
  · have hb0 := hcx 0 (by simp)
    rw [Nat.add_zero] at hb0
    simp only [List.getElem_cons_zero] at hb0
    clear hcx hL0 hL2
    simp only [List.length_cons, List.length_nil, Nat.zero_add]
    by_cases hba : b = a
    · have hbe : (b == (a : Int)) = true := by simp [hba]
      clear hba Hone
      go_wp2
      go_ret
      exact ⟨rfl, Hb3.out⟩
    · have hbe : (b == (a : Int)) = false := by simp [hba]
      rcases Hone.out b rfl hba with rfl | rfl
      · clear Hone hba
        have hzz : (z == z) = true := by simp
        go_wp2
        go_quiet (fail)
        go_wp2
        go_ret
        exact ⟨rfl, bN Hb3.out _⟩
      · clear Hone hba
        by_cases hb1 : (-1 : Int) = b
        · subst hb1
          go_wp2
          go_quiet (fail)
          go_wp2
          go_ret
          exact ⟨rfl, bN Hb3.out _⟩
        · have hb2 : ((-1 : Int) == b) = false := by simpa using hb1
          go_wp2
          go_quiet (fail)
          go_wp2
          go_ret
          exact ⟨rfl, bN Hb3.out _⟩
  · clear hcx hL0 hL2
    simp only [List.length_cons, List.length_nil, Nat.zero_add]
    go_wp2
    go_ret
    exact ⟨rfl, Hb3.out⟩
  · simp at hL2
theorem flowOne_any (v0 v1 v3 v4 v5 : Value) (p : Option Addr) (xs : List Int) (cap : Nat) (i : Int) (w : World) (hw : WordsAt w p xs) :
    Calls Try.prog 9 #[.agg #[v0, v1, .slice p xs.length cap, v3, v4, v5], .int .i64 i] w fun e w' => e = .returned (.bool true) ∧ Below w.heap.size w w' := by
  by_cases hl : xs.length ≤ 40
  · by_cases hi : 0 ≤ i ∧ i < xs.length
    · obtain ⟨a, rfl⟩ : ∃ n : Nat, i = n := ⟨i.toNat, by omega⟩
      exact fone_in v0 v1 v3 v4 v5 p xs.length cap _ a (by omega) w (hw.wds hl)
    · exact fone_out v0 v1 v3 v4 v5 p xs.length cap i (by omega) w
  · exact fone_many v0 v1 v3 v4 v5 p xs.length cap i (by omega) w
set_option maxRecDepth 100000 in
theorem flowOne_lifted (os : Os) (started : os.Started) (H : Type) (enc : TypeId × Value → H) :
    ReturnsInHanded {} Try.checked os 9 .any (Rows.flowOneSpec.pre6 enc Try.prog Try.f9 Rows.flowOneRow.domain false) (Rows.flowOneSpec.post enc Try.prog Try.f9 false true false false) := by
  refine returnsInHanded_of_change (C := Try.checked) Try.own started (by kernel_rfl) Try.func9
    (ChangeSpec.witness6 (enc := enc) (C := Try.checked) false ⟨#[], #[.agg #[.slice none 0 0, .int .i64 0, .slice none 0 0, .slice none 0 0, .slice none 0 0, .slice none 0 0], .int .i64 0], []⟩ 8 (by kernel_rfl) (by kernel_rfl) (by kernel_rfl) (by kernel_rfl)) ?_
  intro W base args ds gs before hval0 hW hcnd _
  have hval : ∀ (j : Nat) t v, Try.f9.params[j]? = some t → args[j]? = some v → Value.okWide Try.prog W .any base t v := hval0
  have hW' := hW
  obtain ⟨p, q, hA0, hV, rfl, hfz, hnd⟩ := hW
  have hA : DataW.TrodAll enc Try.prog W 0 (fun _ => true) true Try.f9.params.toList args.toList ds p := hA0
  rw [Try.params9] at hA hval
  obtain ⟨v0, v1, d0, d1, p0, p1, rfl, rfl, rfl, h0, h1⟩ := trodAll_two hA
  obtain ⟨i, rfl⟩ := okWide_int Try.underlying3 (hval 1 3 v1 rfl rfl)
  obtain ⟨x0, x1, x3, x4, x5, p, len, cap, xs, rfl, rfl, hxs⟩ := open_proto (hval 0 48 v0 rfl rfl) h0
  exact law_close Try.laidOut (by kernel_rfl) rfl rfl Try.underlying4 hW' ⟨rfl, rfl, rfl⟩ (flowOne_any x0 x1 x3 x4 x5 p xs cap i W hxs)
theorem flowOne_holds : Rows.FlowOneSaid :=
  OpenClaim.holds_of_wide 9 Try.f9 rfl rfl rfl rfl rfl rfl rfl ⟨rfl, rfl, rfl, rfl, rfl⟩ rfl rfl rfl rfl rfl (by kernel_rfl) Try.func9 (by kernel_rfl)
    (of_decide_eq_true (by kernel_rfl)) (by unfold Func.isWrapper; first | (rw [if_pos (by decide +kernel)]; kernel_rfl) | (rw [if_neg (by decide +kernel)]; exact ⟨rfl, rfl⟩))
    (fun os started H enc _ => flowOne_lifted os started H enc)
#print axioms flowOne_holds
end Go.Proofs.Ytjocifamacpamaa
