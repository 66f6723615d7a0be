/- FlowPosts: the nearest place that all ways from a word to the end have. Conditions: none. -/
import Derived.Test.YtjocifamacpamaaFlowWc
import Derived.Test.YtjocifamacpamaaFlowQ
import Derived.Test.YtjocifamacpamaaFlowP
namespace Go.Proofs.Ytjocifamacpamaa
open Go.ChangeShapes Go.WideShapes Go.ChangeAt Go.RowKit
set_option linter.unusedVariables false
theorem WordsAt.wds {W : World} {p : Option Addr} {xs : List Int} (h : WordsAt W p xs) (hl : xs.length ≤ 40) : Wds W.heap.size W p xs.length (fun i => xs.getD i 0) := by
  obtain ⟨h1, h2⟩ := h
  refine ⟨hl, fun i hi => ?_, fun h0 => ?_⟩
  · have := h1 xs[i] (List.getElem_mem hi)
    simpa [List.getD, hi] using this
  · rcases h2 with rfl | ⟨b, o, rfl, hb, hc⟩
    · simp at h0
    · exact ⟨b, o, rfl, hb, fun i hi => by rw [hc i hi]; simp [List.getD, hi]⟩
theorem flowPosts_any (v0 v1 v3 v4 v5 : Value) (p : Option Addr) (xs : List Int) (cap : Nat) (w : World) (hw : WordsAt w p xs) :
    Calls Try.prog 8 #[.agg #[v0, v1, .slice p xs.length cap, v3, v4, v5]] w fun e w' => e = .returned (.bool true) ∧ Below w.heap.size w w' := by
  by_cases hl : xs.length ≤ 40
  · have hW := hw.wds hl
    refine fposts_law v0 v1 v3 v4 v5 p xs.length cap true ((List.range xs.length).map fun i : Nat => postS (nxW xs.length fun i => xs.getD i 0) xs.length i) (by simp; omega) w (fun w1 => ?_) (fun _ w1 hb1 => ?_) (fun _ w1 hb1 => ?_)
    · have := few_any v0 v1 v3 v4 v5 p xs.length cap w1
      rwa [show decide ((xs.length : Int) ≤ 40) = true by simp; omega] at this
    · exact (posts_any v0 v1 v3 v4 v5 p xs.length cap _ w1 (hW.up hb1 hb1.size)).mono fun e w' ⟨v, he, h3, h4⟩ => ⟨v, he, h3, Ints_base' h4 (Nat.zero_le _)⟩
    · exact (refPosts_any v0 v1 v3 v4 v5 p xs.length cap _ w1 (hW.up hb1 hb1.size)).mono fun e w' ⟨v, he, h3, h4⟩ => ⟨v, he, h3, Ints_base' h4 (Nat.zero_le _)⟩
  · refine fposts_law v0 v1 v3 v4 v5 p xs.length cap false [] (by simp) w (fun w1 => ?_) (fun h => nomatch h) (fun h => nomatch h)
    have := few_any v0 v1 v3 v4 v5 p xs.length cap w1
    rwa [show decide ((xs.length : Int) ≤ 40) = false by simp; omega] at this
set_option maxRecDepth 100000 in
theorem flowPosts_lifted (os : Os) (started : os.Started) (H : Type) (enc : TypeId × Value → H) :
    ReturnsInHanded {} Try.checked os 8 .any (Rows.flowPostsSpec.pre6 enc Try.prog Try.f8 Rows.flowPostsRow.domain false) (Rows.flowPostsSpec.post enc Try.prog Try.f8 false true false false) := by
  refine returnsInHanded_of_change (C := Try.checked) Try.own started (by kernel_rfl) Try.func8
    (ChangeSpec.witness6 (enc := enc) (C := Try.checked) false ⟨#[], #[.agg #[.slice none 0 0, .int .i64 0, .slice none 0 0, .slice none 0 0, .slice none 0 0, .slice none 0 0]], []⟩ 8 (by kernel_rfl) (by kernel_rfl) (by kernel_rfl) (by kernel_rfl)) ?_
  intro W base args ds gs before hval0 hW hcnd _
  have hval : ∀ (j : Nat) t v, Try.f8.params[j]? = some t → args[j]? = some v → Value.okWide Try.prog W .any base t v := hval0
  have hW' := hW
  obtain ⟨p, q, hA0, hV, rfl, hfz, hnd⟩ := hW
  have hA : DataW.TrodAll enc Try.prog W 0 (fun _ => true) true Try.f8.params.toList args.toList ds p := hA0
  rw [Try.params8] at hA hval
  obtain ⟨v0, d0, rfl, rfl, h0⟩ := trodAll_one hA
  obtain ⟨x0, x1, x3, x4, x5, p, len, cap, xs, rfl, rfl, hxs⟩ := open_proto (hval 0 48 v0 rfl rfl) h0
  exact law_close Try.laidOut (by kernel_rfl) rfl rfl Try.underlying4 hW' ⟨rfl, rfl, rfl⟩ (flowPosts_any x0 x1 x3 x4 x5 p xs cap W hxs)
theorem flowPosts_holds : Rows.FlowPostsSaid :=
  OpenClaim.holds_of_wide 8 Try.f8 rfl rfl rfl rfl rfl rfl rfl ⟨rfl, rfl, rfl, rfl, rfl⟩ rfl rfl rfl rfl rfl (by kernel_rfl) Try.func8 (by kernel_rfl)
    (of_decide_eq_true (by kernel_rfl)) (by unfold Func.isWrapper; first | (rw [if_pos (by decide +kernel)]; kernel_rfl) | (rw [if_neg (by decide +kernel)]; exact ⟨rfl, rfl⟩))
    (fun os started H enc _ => flowPosts_lifted os started H enc)
#print axioms flowPosts_holds
end Go.Proofs.Ytjocifamacpamaa
