/- What a function of the machine is, opened; FlowNext's statement. Conditions: none. -/
import Derived.Test.YtjocifamacpamaaFlowN
import Derived.Test.YtjocifamacpamaaLift
import Derived.Test.YtjocifamacpamaaInstrI
namespace Go.Proofs.Ytjocifamacpamaa
open Go.ChangeShapes Go.WideShapes Go.ChangeAt Go.RowKit
set_option linter.unusedVariables false
/-- The words of a function, as they lie. -/
def WordsAt (W : World) (p : Option Addr) (xs : List Int) : Prop :=
  (∀ x ∈ xs, 0 ≤ x ∧ x < 4294967296) ∧ (xs = [] ∨ ∃ b o, p = some ⟨b, o, none⟩ ∧ b < W.heap.size ∧ ∀ (i : Nat) (h : i < xs.length), W.cell? ⟨b, o + i, none⟩ = some (.int .u32 xs[i]))
set_option maxRecDepth 100000 in
theorem open_proto {H : Type} {enc : TypeId × Value → H} {W : World} {base : Nat} {v : Value} {d : DataW H} {ps : List MemPlace}
    (hv : Value.okWide Try.prog W .any base 48 v) (h : DataW.Trod enc Try.prog W 0 (fun _ => true) true 48 v d ps) :
    ∃ v0 v1 v3 v4 v5 p len cap xs, v = .agg #[v0, v1, .slice p len cap, v3, v4, v5] ∧ xs.length = len ∧ WordsAt W p xs := by
  obtain ⟨cs, n, rfl, hlen, hf⟩ := open_struct Try.underlying48 hv h
  rw [show Try.prog.cellsOf 48 = 6 by kernel_rfl] at hlen
  obtain ⟨v0, v1, v2, v3, v4, v5, rfl⟩ : ∃ v0 v1 v2 v3 v4 v5, cs = [v0, v1, v2, v3, v4, v5] := by
    rcases cs with _ | ⟨v0, _ | ⟨v1, _ | ⟨v2, _ | ⟨v3, _ | ⟨v4, _ | ⟨v5, _ | ⟨v6, cs⟩⟩⟩⟩⟩⟩⟩ <;> first | (simp at hlen; done) | exact ⟨v0, v1, v2, v3, v4, v5, rfl⟩ | (simp at hlen; omega)
  obtain ⟨y, hy⟩ := hf 2 { name := "Words", type := 43, offset := 2, embedded := false, tag := "", pkgPath := "", byteOffset := 32 } rfl
  have hc1 : Try.prog.cellsOf 43 = 1 := by kernel_rfl
  have hy' : DataW.trod enc Try.prog W 0 (fun _ => true) true n 43 [v2] = some y := by
    rw [← hy]
    simp only [hc1]
    rfl
  rcases open_ints Try.underlying43 Try.underlying25 (by kernel_rfl) hy' with ⟨h1, _⟩ | ⟨a, len, cap, zs, h1, _, hle, _, hz, _, hcell, hwf⟩
  · simp at h1; subst h1
    exact ⟨v0, v1, v3, v4, v5, none, 0, 0, [], rfl, rfl, by simp, .inl rfl⟩
  · simp at h1; subst h1
    simp only [if_true] at hz
    refine ⟨v0, v1, v3, v4, v5, some a, len, cap, zs.take len, rfl, by simp; omega, fun x hx => ?_, ?_⟩
    · have := hwf x (List.mem_of_mem_take hx)
      simp [Lit.wf, IntKind.min, IntKind.max, IntKind.signed, IntKind.bits] at this
      omega
    · by_cases h0 : len = 0
      · left; subst h0; rfl
      · right
        have hs := World.cell?_spot (hcell 0 (by omega))
        obtain ⟨b, o, sp⟩ := a
        simp [Addr.add] at hs
        subst hs
        refine ⟨b, o, rfl, ?_, fun i hi => ?_⟩
        · have := hcell 0 (by omega)
          exact World.block_lt_of_cell? _ _ this
        · have := hcell i (by simp at hi; omega)
          simp at hi
          rcases Nat.eq_zero_or_pos i with h00 | h00
          · subst h00
            simpa [Addr.add, List.getElem_take, List.getD, List.getElem?_eq_getElem (show 0 < zs.length by omega)] using this
          · have h01 : ¬ i = 0 := by omega
            simpa [Addr.add, h01, List.getElem_take, List.getD, List.getElem?_eq_getElem (show i < zs.length by omega)] using this
theorem Ints_base {B B' : Nat} {w : World} {v : Value} {l : List Int} (h : Ints B w v l) (hB : B' ≤ B) : Ints B' w v l := by
  obtain ⟨h1, h2⟩ := h
  refine ⟨h1, ?_⟩
  rcases h2 with h2 | ⟨g, cap, cur, hv, hg, hh, hr⟩
  · exact Or.inl h2
  · exact Or.inr ⟨g, cap, cur, hv, by omega, hh, hr⟩
theorem nextS_len (n x i : Int) : (nextS n x i).length ≤ 2 := by
  unfold nextS
  simp only
  repeat' split
  all_goals simp
theorem Ints_nil (B : Nat) (w : World) : Ints B w (.slice none 0 0) [] := ⟨rfl, .inl ⟨rfl, rfl⟩⟩
theorem flowNext_any (v0 v1 v3 v4 v5 : Value) (p : Option Addr) (xs : List Int) (cap : Nat) (i : Int) (w : World) (hw : WordsAt w p xs) :
    Calls Try.prog 7 #[.agg #[v0, v1, .slice p xs.length cap, v3, v4, v5], .int .i64 i] w fun e w' => e = .returned (.bool true) ∧ Below w.heap.size w w' := by
  by_cases hl : xs.length ≤ 40
  · by_cases hi : 0 ≤ i ∧ i < xs.length
    · obtain ⟨n, rfl⟩ : ∃ n : Nat, i = n := ⟨i.toNat, by omega⟩
      have hn : n < xs.length := by omega
      obtain ⟨h1, h2⟩ := hw
      rcases h2 with rfl | ⟨b, o, rfl, hb, hc⟩
      · simp at hn
      have hx := h1 xs[n] (List.getElem_mem hn)
      refine fnext_any v0 v1 v3 v4 v5 _ xs.length cap n true (nextS xs.length xs[n] n) (by have := nextS_len xs.length xs[n] n; omega) w (fun w1 => ?_) (fun _ w1 hb1 => ?_) (fun _ w1 hb1 => ?_)
      · have := few_any v0 v1 v3 v4 v5 (some ⟨b, o, none⟩) xs.length cap w1
        rwa [show decide ((xs.length : Int) ≤ 40) = true by simp; omega] at this
      · exact (next_inn v0 v1 v3 v4 v5 b o xs.length cap n xs[n] hx.1 hx.2 hn (by omega) w1 (by have := hb1.size; omega) (cell_later hb1 (hc n hn))).mono fun e w' ⟨v, he, h3, h4⟩ => ⟨v, he, h3, Ints_base h4 (by omega)⟩
      · exact (refNext_inn v0 v1 v3 v4 v5 b o xs.length cap n xs[n] hx.1 hx.2 hn (by omega) w1 (by have := hb1.size; omega) (cell_later hb1 (hc n hn))).mono fun e w' ⟨v, he, h3, h4⟩ => ⟨v, he, h3, Ints_base h4 (by omega)⟩
    · refine fnext_any v0 v1 v3 v4 v5 _ xs.length cap i true [] (by simp) w (fun w1 => ?_) (fun _ w1 hb1 => ?_) (fun _ w1 hb1 => ?_)
      · have := few_any v0 v1 v3 v4 v5 p xs.length cap w1
        rwa [show decide ((xs.length : Int) ≤ 40) = true by simp; omega] at this
      · exact (next_out v0 v1 v3 v4 v5 p xs.length cap i (by omega) w1).mono fun e w' ⟨he, h3⟩ => ⟨_, he, h3, Ints_nil _ _⟩
      · exact (refNext_out v0 v1 v3 v4 v5 p xs.length cap i (by omega) w1).mono fun e w' ⟨he, h3⟩ => ⟨_, he, h3, Ints_nil _ _⟩
  · refine fnext_any v0 v1 v3 v4 v5 _ xs.length cap i false [] (by simp) w (fun w1 => ?_) (fun h => nomatch h) (fun h => nomatch h)
    have := few_any v0 v1 v3 v4 v5 p xs.length cap w1
    rwa [show decide ((xs.length : Int) ≤ 40) = false by simp; omega] at this
set_option maxRecDepth 100000 in
theorem flowNext_lifted (os : Os) (started : os.Started) (H : Type) (enc : TypeId × Value → H) :
    ReturnsInHanded {} Try.checked os 7 .any (Rows.flowNextSpec.pre6 enc Try.prog Try.f7 Rows.flowNextRow.domain false) (Rows.flowNextSpec.post enc Try.prog Try.f7 false true false false) := by
  refine returnsInHanded_of_change (C := Try.checked) Try.own started (by kernel_rfl) Try.func7
    (ChangeSpec.witness6 (enc := enc) (C := Try.checked) false ⟨#[], #[.agg #[.slice none 0 0, .int .i64 0, .slice none 0 0, .slice none 0 0, .slice none 0 0, .slice none 0 0], .int .i64 0], []⟩ 8 (by kernel_rfl) (by kernel_rfl) (by kernel_rfl) (by kernel_rfl)) ?_
  intro W base args ds gs before hval0 hW hcnd _
  have hval : ∀ (j : Nat) t v, Try.f7.params[j]? = some t → args[j]? = some v → Value.okWide Try.prog W .any base t v := hval0
  have hW' := hW
  obtain ⟨p, q, hA0, hV, rfl, hfz, hnd⟩ := hW
  have hA : DataW.TrodAll enc Try.prog W 0 (fun _ => true) true Try.f7.params.toList args.toList ds p := hA0
  rw [Try.params7] at hA hval
  obtain ⟨v0, v1, d0, d1, p0, p1, rfl, rfl, rfl, h0, h1⟩ := trodAll_two hA
  obtain ⟨i, rfl⟩ := okWide_int Try.underlying3 (hval 1 3 v1 rfl rfl)
  obtain ⟨x0, x1, x3, x4, x5, p, len, cap, xs, rfl, rfl, hxs⟩ := open_proto (hval 0 48 v0 rfl rfl) h0
  exact law_close Try.laidOut (by kernel_rfl) rfl rfl Try.underlying4 hW' ⟨rfl, rfl, rfl⟩ (flowNext_any x0 x1 x3 x4 x5 p xs cap i W hxs)
theorem flowNext_holds : Rows.FlowNextSaid :=
  OpenClaim.holds_of_wide 7 Try.f7 rfl rfl rfl rfl rfl rfl rfl ⟨rfl, rfl, rfl, rfl, rfl⟩ rfl rfl rfl rfl rfl (by kernel_rfl) Try.func7 (by kernel_rfl)
    (of_decide_eq_true (by kernel_rfl)) (by unfold Func.isWrapper; first | (rw [if_pos (by decide +kernel)]; kernel_rfl) | (rw [if_neg (by decide +kernel)]; exact ⟨rfl, rfl⟩))
    (fun os started H enc _ => flowNext_lifted os started H enc)
#print axioms flowNext_holds
end Go.Proofs.Ytjocifamacpamaa
