/- FlowWrites: which registers may be written between a branch and the place where its ways meet. Conditions: none. -/
import Derived.HandedShaped
import Derived.Test.YtjocifamacpamaaFlowWg
import Derived.Test.YtjocifamacpamaaFlowWi
import Derived.Test.YtjocifamacpamaaFlowWd
import Derived.Test.YtjocifamacpamaaFlowP
namespace Go.Proofs.Ytjocifamacpamaa
open Go.ChangeShapes Go.WideShapes Go.ChangeAt Go.RowKit
set_option linter.unusedVariables false
theorem WordsAt.wds {W : World} {p : Option Addr} {xs : List Int} (h : WordsAt W p xs) (hl : xs.length ≤ 40) : Wds W.heap.size W p xs.length (fun i => xs.getD i 0) := by
  obtain ⟨h1, h2⟩ := h
  refine ⟨hl, fun i hi => ?_, fun h0 => ?_⟩
  · have := h1 xs[i] (List.getElem_mem hi)
    simpa [List.getD, hi] using this
  · rcases h2 with rfl | ⟨b, o, rfl, hb, hc⟩
    · simp at h0
    · exact ⟨b, o, rfl, hb, fun i hi => by rw [hc i hi]; simp [List.getD, hi]⟩
/-- Both answer alike. -/
theorem writes_both (v0 v1 v3 v4 v5 : Value) (p : Option Addr) (len cap : Nat) (ws : Nat → Int) (i : Int) (w : World) (hw : Wds w.heap.size w p len ws) (m : Int) (hm : w.cell? ⟨0, 0, none⟩ = some (.int .i64 m)) :
    ∃ L : List Int, L.length ≤ 1000 ∧ (∀ w1, Below w.heap.size w w1 → Calls Try.prog 30 #[.agg #[v0, v1, .slice p len cap, v3, v4, v5], .int .i64 i] w1 fun e w' => ∃ v, e = .returned v ∧ Below w1.heap.size w1 w' ∧ Ints 0 w' v L) ∧
      ∀ w1, Below w.heap.size w w1 → Calls Try.prog 31 #[.agg #[v0, v1, .slice p len cap, v3, v4, v5], .int .i64 i] w1 fun e w' => ∃ v, e = .returned v ∧ Below w1.heap.size w1 w' ∧ Ints 0 w' v L := by
  have hl := hw.few
  by_cases hi : 0 ≤ i ∧ i < len
  · obtain ⟨a, rfl⟩ : ∃ n : Nat, i = n := ⟨i.toNat, by omega⟩
    have ha : a < len := by omega
    obtain ⟨_, _, _, hc⟩ := dec_full (ws a)
    rcases hc with ⟨he, _⟩ | he
    · by_cases hop : opS (ws a) = 35 ∨ opS (ws a) = 36
      · have hnx : ∀ i, ∀ x ∈ nxW len ws i, -1 ≤ x ∧ x < len := fun i x hx => nextS_in len (ws i) i x hx
        have hn2 : ∀ i, (nxW len ws i).length ≤ 2 := fun i => nextS_len len (ws i) i
        have hz := postS_alt (nxW len ws) len a
        obtain ⟨R, hR, hRl⟩ := fromF_total (nxW len ws) (postS (nxW len ws) len a) hn2 1000 (nxW len ws a) (List.replicate len false) (by have := hn2 a; simp; omega)
        have hRl' : R.length = len := by simpa using hRl
        have hzz : ∃ zz, zz = if postS (nxW len ws) len a = -1 then -2 else postS (nxW len ws) len a := ⟨_, rfl⟩
        obtain ⟨zz, hzz⟩ := hzz
        obtain ⟨b1, hb1⟩ := lock2 (nxW len ws) len hnx (postS (nxW len ws) len a) zz (fun x hx => by
          rcases hz with hz | ⟨_, hz⟩
          · rw [hzz, if_pos hz, hz]; omega
          · rw [hzz, if_neg (by have := hz.lo; omega)]) (by
          rcases hz with hz | ⟨_, hz⟩
          · rw [hzz, if_pos hz]; omega
          · rw [hzz, if_neg (by have := hz.lo; omega)]; have := hz.lo; omega) 1000 (nxW len ws a) (List.replicate len false) R false (by simp) (hnx a) hR
        rw [← List.replicate_succ'] at hb1
        have hpl : (pickS (hasW ws R len) 256).length ≤ 1000 := by
          unfold pickS
          rw [List.length_map]
          exact Nat.le_trans (List.length_filter_le _ _) (by simp)
        refine ⟨pickS (hasW ws R len) 256, hpl, fun w1 h1 => ?_, fun w1 h1 => ?_⟩
        · rw [← writes_same]
          have hw1 := hw.up h1 h1.size
          have hm1 := cell_stays h1 hm
          rcases hop with hop | hop
          · exact fwrites_35 v0 v1 v3 v4 v5 p len cap ws a ha w1 hw1 m hm1 he hop R hRl' 1000 (by omega) hR
          · exact fwrites_36 v0 v1 v3 v4 v5 p len cap ws a ha w1 hw1 m hm1 he hop R hRl' 1000 (by omega) hR
        · have hw1 := hw.up h1 h1.size
          by_cases hz1 : postS (nxW len ws) len a = -1
          · rw [if_pos hz1] at hzz
            rcases hop with hop | hop
            · exact refWrites_35_is v0 v1 v3 v4 v5 p len cap ws a ha w1 hw1 he hop R hRl' b1 zz hz1 hzz 1000 (by omega) hb1
            · exact refWrites_36_is v0 v1 v3 v4 v5 p len cap ws a ha w1 hw1 he hop R hRl' b1 zz hz1 hzz 1000 (by omega) hb1
          · rw [if_neg hz1] at hzz
            rcases hop with hop | hop
            · exact refWrites_35_no v0 v1 v3 v4 v5 p len cap ws a ha w1 hw1 he hop R hRl' b1 zz hz1 hzz 1000 (by omega) hb1
            · exact refWrites_36_no v0 v1 v3 v4 v5 p len cap ws a ha w1 hw1 he hop R hRl' b1 zz hz1 hzz 1000 (by omega) hb1
      · have h5 : opS (ws a) ≠ 35 := fun e => hop (.inl e)
        have h6 : opS (ws a) ≠ 36 := fun e => hop (.inr e)
        exact ⟨[], by simp, fun w1 h1 => (fw_other v0 v1 v3 v4 v5 p len cap ws a ha w1 (hw.up h1 h1.size) he h5 h6).mono fun e w' ⟨h2, h3⟩ => ⟨_, h2, h3, Ints_nil _ _⟩,
          fun w1 h1 => (rw_other v0 v1 v3 v4 v5 p len cap ws a ha w1 (hw.up h1 h1.size) he h5 h6).mono fun e w' ⟨h2, h3⟩ => ⟨_, h2, h3, Ints_nil _ _⟩⟩
    · exact ⟨[], by simp, fun w1 h1 => (fw_bad v0 v1 v3 v4 v5 p len cap ws a ha w1 (hw.up h1 h1.size) he).mono fun e w' ⟨h2, h3⟩ => ⟨_, h2, h3, Ints_nil _ _⟩,
        fun w1 h1 => (rw_bad v0 v1 v3 v4 v5 p len cap ws a ha w1 (hw.up h1 h1.size) he).mono fun e w' ⟨h2, h3⟩ => ⟨_, h2, h3, Ints_nil _ _⟩⟩
  · exact ⟨[], by simp, fun w1 h1 => (fw_out v0 v1 v3 v4 v5 p len cap i (by omega) w1).mono fun e w' ⟨h2, h3⟩ => ⟨_, h2, h3, Ints_nil _ _⟩,
      fun w1 h1 => (rw_out v0 v1 v3 v4 v5 p len cap i (by omega) w1).mono fun e w' ⟨h2, h3⟩ => ⟨_, h2, h3, Ints_nil _ _⟩⟩
theorem flowWrites_any (v0 v1 v3 v4 v5 : Value) (p : Option Addr) (xs : List Int) (cap : Nat) (i : Int) (w : World) (hw : WordsAt w p xs) (m : Int) (hm : w.cell? ⟨0, 0, none⟩ = some (.int .i64 m)) :
    Calls Try.prog 12 #[.agg #[v0, v1, .slice p xs.length cap, v3, v4, v5], .int .i64 i] w fun e w' => e = .returned (.bool true) ∧ Below w.heap.size w w' := by
  by_cases hl : xs.length ≤ 40
  · obtain ⟨L, h0, h1, h2⟩ := writes_both v0 v1 v3 v4 v5 p xs.length cap _ i w (hw.wds hl) m hm
    refine fwrites_law v0 v1 v3 v4 v5 p xs.length cap i true L h0 w (fun w1 => ?_) (fun _ w1 hb1 => h1 w1 hb1) (fun _ w1 hb1 => h2 w1 hb1)
    have := few_any v0 v1 v3 v4 v5 p xs.length cap w1
    rwa [show decide ((xs.length : Int) ≤ 40) = true by simp; omega] at this
  · refine fwrites_law v0 v1 v3 v4 v5 p xs.length cap i false [] (by simp) w (fun w1 => ?_) (fun h => nomatch h) (fun h => nomatch h)
    have := few_any v0 v1 v3 v4 v5 p xs.length cap w1
    rwa [show decide ((xs.length : Int) ≤ 40) = false by simp; omega] at this
set_option maxRecDepth 100000 in
theorem flowWrites_lifted (os : Os) (started : os.Started) (H : Type) (enc : TypeId × Value → H) :
    ReturnsInHanded {} Try.checked os 12 .any (Rows.flowWritesSpec.pre6 enc Try.prog Try.f12 Rows.flowWritesRow.domain false) (Rows.flowWritesSpec.post enc Try.prog Try.f12 false true false false) := by
  refine returnsInHanded_of_change_shaped (C := Try.checked) Try.own started (by kernel_rfl) Try.func12
    (ChangeSpec.witness6 (enc := enc) (C := Try.checked) false ⟨#[], #[.agg #[.slice none 0 0, .int .i64 0, .slice none 0 0, .slice none 0 0, .slice none 0 0, .slice none 0 0], .int .i64 0], []⟩ 8 (by kernel_rfl) (by kernel_rfl) (by kernel_rfl) (by kernel_rfl)) ?_
  intro W base args ds gs before hval0 hW hcnd _ hsh _
  obtain ⟨m, hm⟩ := Try.laysM144.s1_3 W hsh
  have hval : ∀ (j : Nat) t v, Try.f12.params[j]? = some t → args[j]? = some v → Value.okWide Try.prog W .any base t v := hval0
  have hW' := hW
  obtain ⟨p, q, hA0, hV, rfl, hfz, hnd⟩ := hW
  have hA : DataW.TrodAll enc Try.prog W 0 (fun _ => true) true Try.f12.params.toList args.toList ds p := hA0
  rw [Try.params12] at hA hval
  obtain ⟨v0, v1, d0, d1, p0, p1, rfl, rfl, rfl, h0, h1⟩ := trodAll_two hA
  obtain ⟨i, rfl⟩ := okWide_int Try.underlying3 (hval 1 3 v1 rfl rfl)
  obtain ⟨x0, x1, x3, x4, x5, p, len, cap, xs, rfl, rfl, hxs⟩ := open_proto (hval 0 48 v0 rfl rfl) h0
  exact law_close Try.laidOut (by kernel_rfl) rfl rfl Try.underlying4 hW' ⟨rfl, rfl, rfl⟩ (flowWrites_any x0 x1 x3 x4 x5 p xs cap i W hxs m hm)
theorem flowWrites_holds : Rows.FlowWritesSaid :=
  OpenClaim.holds_of_wide 12 Try.f12 rfl rfl rfl rfl rfl rfl rfl ⟨rfl, rfl, rfl, rfl, rfl⟩ rfl rfl rfl rfl rfl (by kernel_rfl) Try.func12 (by kernel_rfl)
    (of_decide_eq_true (by kernel_rfl)) (by unfold Func.isWrapper; first | (rw [if_pos (by decide +kernel)]; kernel_rfl) | (rw [if_neg (by decide +kernel)]; exact ⟨rfl, rfl⟩))
    (fun os started H enc _ => flowWrites_lifted os started H enc)
#print axioms flowWrites_holds
end Go.Proofs.Ytjocifamacpamaa
