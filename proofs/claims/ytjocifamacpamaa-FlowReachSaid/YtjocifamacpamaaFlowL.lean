/- FlowReach: which words can be come to. Conditions: none. -/
import Derived.Test.YtjocifamacpamaaFlowK
namespace Go.Proofs.Ytjocifamacpamaa
open Go.ChangeShapes Go.WideShapes Go.ChangeAt Go.RowKit
set_option linter.unusedVariables false
theorem flowReach_any (v0 v1 v3 v4 v5 : Value) (p : Option Addr) (xs : List Int) (cap : Nat) (w : World) (hw : WordsAt w p xs) :
    Calls Try.prog 11 #[.agg #[v0, v1, .slice p xs.length cap, v3, v4, v5]] w fun e w' => e = .returned (.bool true) ∧ Below w.heap.size w w' := by
  by_cases hl : xs.length ≤ 40
  · have hf : ∀ w1, Calls Try.prog 22 #[.agg #[v0, v1, .slice p xs.length cap, v3, v4, v5]] w1 fun e w' => e = .returned (.bool true) ∧ Below w1.heap.size w1 w' := fun w1 => by
      have := few_any v0 v1 v3 v4 v5 p xs.length cap w1
      rwa [show decide ((xs.length : Int) ≤ 40) = true by simp; omega] at this
    obtain ⟨h1, h2⟩ := hw
    rcases h2 with rfl | ⟨b, o, rfl, hb, hc⟩
    · refine freach_few v0 v1 v3 v4 v5 p 0 cap [] (by simp) w hf (fun w1 _ => ?_) (fun w1 _ => ?_)
      · exact (flowReach_nil v0 v1 v3 v4 v5 p cap w1).mono fun e w' ⟨he, hb⟩ => ⟨_, he, hb, 0, rfl, .inl ⟨rfl, rfl⟩⟩
      · exact (refReach_nil v0 v1 v3 v4 v5 p cap w1).mono fun e w' ⟨he, hb⟩ => ⟨_, he, hb, 0, rfl, .inl ⟨rfl, rfl⟩⟩
    · by_cases h0 : xs.length = 0
      · rw [h0] at hf ⊢
        refine freach_few v0 v1 v3 v4 v5 _ 0 cap [] (by simp) w hf (fun w1 _ => ?_) (fun w1 _ => ?_)
        · exact (flowReach_nil v0 v1 v3 v4 v5 _ cap w1).mono fun e w' ⟨he, hb⟩ => ⟨_, he, hb, 0, rfl, .inl ⟨rfl, rfl⟩⟩
        · exact (refReach_nil v0 v1 v3 v4 v5 _ cap w1).mono fun e w' ⟨he, hb⟩ => ⟨_, he, hb, 0, rfl, .inl ⟨rfl, rfl⟩⟩
      · have hws : ∀ i, i < xs.length → 0 ≤ xs.getD i 0 ∧ xs.getD i 0 < 4294967296 := fun i hi => by
          have := h1 xs[i] (List.getElem_mem hi)
          simpa [List.getD, hi] using this
        have hcc : ∀ i, i < xs.length → w.cell? ⟨b, o + i, none⟩ = some (.int .u32 (xs.getD i 0)) := fun i hi => by
          rw [hc i hi]; simp [List.getD, hi]
        obtain ⟨R, hR, hRl⟩ := fromF_total (fun i => nextS xs.length (xs.getD i 0) i) (-1) (fun i => nextS_len _ _ _) (3 * xs.length + 2) [0] (List.replicate xs.length false) (by simp; omega)
        obtain ⟨b', hb'⟩ := lock (fun i => nextS xs.length (xs.getD i 0) i) xs.length (fun i x hx => nextS_in _ _ _ x hx) _ [0] (List.replicate xs.length false) R false (by simp) (by simp; omega) hR
        rw [← List.replicate_succ'] at hb'
        have hRl' : R.length = xs.length := by simpa using hRl
        refine freach_few v0 v1 v3 v4 v5 _ xs.length cap R (by omega) w hf (fun w1 hb1 => ?_) (fun w1 hb1 => ?_)
        · exact (flowReach_some v0 v1 v3 v4 v5 b o xs.length cap _ hws hl (by omega) w1 (by have := hb1.size; omega) (fun i hi => cell_later hb1 (hcc i hi)) _ (by omega) R hR).mono fun e w' ⟨v, he, h3, h4⟩ => ⟨v, he, h3, _, by rw [hRl']; exact h4⟩
        · exact (refReach_some v0 v1 v3 v4 v5 b o xs.length cap _ hws hl (by omega) w1 (by have := hb1.size; omega) (fun i hi => cell_later hb1 (hcc i hi)) _ (by omega) R b' hRl' hb').mono fun e w' ⟨v, he, h3, h4⟩ => ⟨v, he, h3, _, by rw [hRl']; exact h4⟩
  · refine freach_many v0 v1 v3 v4 v5 p xs.length cap w fun w1 => ?_
    have := few_any v0 v1 v3 v4 v5 p xs.length cap w1
    rwa [show decide ((xs.length : Int) ≤ 40) = false by simp; omega] at this
set_option maxRecDepth 100000 in
theorem flowReach_lifted (os : Os) (started : os.Started) (H : Type) (enc : TypeId × Value → H) :
    ReturnsInHanded {} Try.checked os 11 .any (Rows.flowReachSpec.pre6 enc Try.prog Try.f11 Rows.flowReachRow.domain false) (Rows.flowReachSpec.post enc Try.prog Try.f11 false true false false) := by
  refine returnsInHanded_of_change (C := Try.checked) Try.own started (by kernel_rfl) Try.func11
    (ChangeSpec.witness6 (enc := enc) (C := Try.checked) false ⟨#[], #[.agg #[.slice none 0 0, .int .i64 0, .slice none 0 0, .slice none 0 0, .slice none 0 0, .slice none 0 0]], []⟩ 8 (by kernel_rfl) (by kernel_rfl) (by kernel_rfl) (by kernel_rfl)) ?_
  intro W base args ds gs before hval0 hW hcnd _
  have hval : ∀ (j : Nat) t v, Try.f11.params[j]? = some t → args[j]? = some v → Value.okWide Try.prog W .any base t v := hval0
  have hW' := hW
  obtain ⟨p, q, hA0, hV, rfl, hfz, hnd⟩ := hW
  have hA : DataW.TrodAll enc Try.prog W 0 (fun _ => true) true Try.f11.params.toList args.toList ds p := hA0
  rw [Try.params11] at hA hval
  obtain ⟨v0, d0, rfl, rfl, h0⟩ := trodAll_one hA
  obtain ⟨x0, x1, x3, x4, x5, p, len, cap, xs, rfl, rfl, hxs⟩ := open_proto (hval 0 48 v0 rfl rfl) h0
  exact law_close Try.laidOut (by kernel_rfl) rfl rfl Try.underlying4 hW' ⟨rfl, rfl, rfl⟩ (flowReach_any x0 x1 x3 x4 x5 p xs cap W hxs)
theorem flowReach_holds : Rows.FlowReachSaid :=
  OpenClaim.holds_of_wide 11 Try.f11 rfl rfl rfl rfl rfl rfl rfl ⟨rfl, rfl, rfl, rfl, rfl⟩ rfl rfl rfl rfl rfl (by kernel_rfl) Try.func11 (by kernel_rfl)
    (of_decide_eq_true (by kernel_rfl)) (by unfold Func.isWrapper; first | (rw [if_pos (by decide +kernel)]; kernel_rfl) | (rw [if_neg (by decide +kernel)]; exact ⟨rfl, rfl⟩))
    (fun os started H enc _ => flowReach_lifted os started H enc)
#print axioms flowReach_holds
end Go.Proofs.Ytjocifamacpamaa
