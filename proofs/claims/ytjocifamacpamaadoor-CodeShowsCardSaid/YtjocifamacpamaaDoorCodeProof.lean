/- CodeShows: any function's words as a text, as the reference shows them. Conditions: the tables are as the program's text lays them (tied). -/
import Derived.Test.YtjocifamacpamaaDoorCv
import Derived.Test.YtjocifamacpamaaDoorTie
import Derived.Test.YtjocifamacpamaaDoorCards
import Derived.ProofKit
import Derived.OpenShut
import Derived.LaidMore
import Derived.Lay
import Derived.SevenTiedAt
import Derived.Stop.Joined
namespace Go.Proofs.YtjocifamacpamaaDoor
open Go Go.ChangeShapes Go.WideShapes Go.ChangeAt Go.RowKit
set_option linter.unusedVariables false
set_option linter.unusedSimpArgs false
theorem Tryd.own : ownKnob Tryd.prog.godebug = none := by kernel_rfl
theorem Tryd.laidOut : laidOutB Tryd.prog = true := by kernel_rfl
set_option maxRecDepth 100000 in
theorem open_proto {H : Type} {enc : TypeId × Value → H} {W : World} {base : Nat} {v : Value} {d : DataW H} {ps : List MemPlace}
    (hv : Value.okWide Tryd.prog W .any base 33 v) (h : DataW.Trod enc Tryd.prog W 0 (fun _ => true) true 33 v d ps) :
    ∃ v0 v1 v3 v4 v5 p len cap xs, v = .agg #[v0, v1, .slice p len cap, v3, v4, v5] ∧ xs.length = len ∧ WordsAt W p xs := by
  obtain ⟨cs, n, rfl, hlen, hf⟩ := open_struct Tryd.underlying33 hv h
  rw [show Tryd.prog.cellsOf 33 = 6 by kernel_rfl] at hlen
  obtain ⟨v0, v1, v2, v3, v4, v5, rfl⟩ : ∃ v0 v1 v2 v3 v4 v5, cs = [v0, v1, v2, v3, v4, v5] := by
    rcases cs with _ | ⟨v0, _ | ⟨v1, _ | ⟨v2, _ | ⟨v3, _ | ⟨v4, _ | ⟨v5, _ | ⟨v6, cs⟩⟩⟩⟩⟩⟩⟩ <;> first | (simp at hlen; done) | exact ⟨v0, v1, v2, v3, v4, v5, rfl⟩ | (simp at hlen; omega)
  obtain ⟨y, hy⟩ := hf 2 { name := "Words", type := 28, offset := 2, embedded := false, tag := "", pkgPath := "", byteOffset := 32 } rfl
  have hc1 : Tryd.prog.cellsOf 28 = 1 := by kernel_rfl
  have hy' : DataW.trod enc Tryd.prog W 0 (fun _ => true) true n 28 [v2] = some y := by
    rw [← hy]
    simp only [hc1]
    rfl
  rcases open_ints Tryd.underlying28 Tryd.underlying36 (by kernel_rfl) hy' with ⟨h1, _⟩ | ⟨a, len, cap, zs, h1, _, hle, _, hz, _, hcell, hwf⟩
  · simp at h1; subst h1
    exact ⟨v0, v1, v3, v4, v5, none, 0, 0, [], rfl, rfl, by simp, .inl rfl⟩
  · simp at h1; subst h1
    simp only [if_true] at hz
    refine ⟨v0, v1, v3, v4, v5, some a, len, cap, zs.take len, rfl, by simp; omega, fun x hx => ?_, ?_⟩
    · have := hwf x (List.mem_of_mem_take hx)
      simp [Lit.wf, IntKind.min, IntKind.max, IntKind.signed, IntKind.bits] at this
      omega
    · by_cases h0 : len = 0
      · left; subst h0; rfl
      · right
        have hs := World.cell?_spot (hcell 0 (by omega))
        obtain ⟨b, o, sp⟩ := a
        simp [Addr.add] at hs
        subst hs
        refine ⟨b, o, rfl, ?_, fun i hi => ?_⟩
        · have := hcell 0 (by omega)
          exact World.block_lt_of_cell? _ _ this
        · have := hcell i (by simp at hi; omega)
          simp at hi
          rcases Nat.eq_zero_or_pos i with h00 | h00
          · subst h00
            simpa [Addr.add, List.getElem_take, List.getD, List.getElem?_eq_getElem (show 0 < zs.length by omega)] using this
          · have h01 : ¬ i = 0 := by omega
            simpa [Addr.add, h01, List.getElem_take, List.getD, List.getElem?_eq_getElem (show i < zs.length by omega)] using this
theorem laid_rest {P : Program} {x : String × DataW Unit} {r : List (String × DataW Unit)} {w : World} (h : laidMet P (x :: r) w) : laidMet P r w := by
  obtain ⟨ps, ⟨g, t, cs, fuel, p, q, hg, ht, hv, hd, hr, rfl⟩, hn, hc⟩ := h
  exact ⟨q, hr, (List.nodup_append.1 hn).2.1, fun b off hb => hc b off (List.mem_append_right _ hb)⟩
theorem tab_of_laid {W : World} (h : laidMetH Tryd.prog Rows.codeShowsRow.laid W) : Tab W := by
  rw [MakeChecks.laidMetH_plain _ _ _ (by kernel_rfl)] at h
  exact Lib.tabIs_of_head Tryd.pow10 (by kernel_rfl) Tryd.underlying124 Tryd.underlying52 (by kernel_rfl) (by kernel_rfl) (laid_rest (laid_rest h))
set_option maxRecDepth 100000 in
theorem codeShows_lifted (os : Os) (started : os.Started) (H : Type) (enc : TypeId × Value → H) :
    ReturnsInHanded {} Tryd.checked os 4 .any (fun w args => (Rows.codeShowsSpec.pre enc Tryd.prog Tryd.f4 Rows.codeShowsRow.domain false w args ∧ laidMetH Tryd.prog Rows.codeShowsRow.laid w) ∧ sizedMet enc Tryd.prog Tryd.f4 (OpenSpec.ofChange Rows.codeShowsSpec) false w args)
      (Rows.codeShowsSpec.post enc Tryd.prog Tryd.f4 false true false false) := by
  refine returnsInHanded_of_change_and (C := Tryd.checked) (X := fun w _ => laidMetH Tryd.prog Rows.codeShowsRow.laid w) (fun _ _ _ hh h => h.of_heap hh) Tryd.own started (by kernel_rfl) Tryd.func4
    (ChangeSpec.witness_shaped (enc := enc) (C := Tryd.checked) (os := os) (X := fun w _ => laidMetH Tryd.prog Rows.codeShowsRow.laid w) false (World.laidAll Tryd.prog os Rows.codeShowsRow.laid) #[.agg #[.slice none 0 0, .int .i64 0, .slice none 0 0, .slice none 0 0, .slice none 0 0, .slice none 0 0]] 8 (World.laidAll_os _ _ _)
      (World.shaped_of_ZipB (by kernel_rfl) (by kernel_rfl)) (by kernel_rfl) (by kernel_rfl) (by kernel_rfl)
      (by rw [MakeChecks.laidMetH_plain _ _ _ (by kernel_rfl)]; exact laidMet_laidAll _ (by kernel_rfl) (by kernel_rfl))) ?_
  intro W base args ds gs before hval0 hW hcnd _ hL _
  have hval : ∀ (j : Nat) t v, Tryd.f4.params[j]? = some t → args[j]? = some v → Value.okWide Tryd.prog W .any base t v := hval0
  have hW' := hW
  obtain ⟨p, q, hA0, hV, rfl, hfz, hnd⟩ := hW
  have hA : DataW.TrodAll enc Tryd.prog W 0 (fun _ => true) true Tryd.f4.params.toList args.toList ds p := hA0
  rw [Tryd.params4] at hA hval
  obtain ⟨v0, d0, rfl, rfl, h0⟩ := trodAll_one hA
  obtain ⟨x0, x1, x3, x4, x5, p, len, cap, xs, rfl, rfl, hxs⟩ := open_proto (hval 0 33 v0 rfl rfl) h0
  exact law_close Tryd.laidOut (by kernel_rfl) rfl rfl Tryd.underlying4 hW' ⟨rfl, rfl, rfl⟩ (codeShows_any x0 x1 x3 x4 x5 p xs cap W hxs (tab_of_laid hL))
theorem codeShows_holds : Rows.CodeShowsSaid :=
  OpenClaim.holds_of_wide 4 Tryd.f4 rfl rfl rfl rfl rfl rfl rfl ⟨rfl, rfl, rfl, rfl, rfl⟩ rfl rfl rfl rfl rfl (by kernel_rfl) Tryd.func4 (by kernel_rfl)
    (of_decide_eq_true (by kernel_rfl)) (by unfold Func.isWrapper; first | (rw [if_pos (by decide +kernel)]; kernel_rfl) | (rw [if_neg (by decide +kernel)]; exact ⟨rfl, rfl⟩))
    (fun os started H enc _ => codeShows_lifted os started H enc)
theorem codeShows_card : Rows.CodeShowsCardSaid :=
  Claim7.holds_tied_plain_at .later [] [.data, .data, .data, .listed, .data] true (true, "515876b6411bd0d2af1007d5d8fcf6feeae8ca4269b93ae658cd324eb5a253d7") true codeShows_holds (fun _ h => by cases h) (by kernel_rfl) (fun _ h => by cases h) codeShows_row_tie rfl ⟨rfl, rfl⟩ (by kernel_rfl) rfl
    (fun f fn hf hfn => by
      obtain rfl : f = 4 := Option.some.inj ((show Tryd.prog.funcNamed "ravelin/ravelinlaw16.CodeShows" = some 4 by kernel_rfl).symm.trans hf) |>.symm
      obtain rfl : fn = Tryd.f4 := (Option.some.inj (Tryd.func4.symm.trans hfn)).symm
      exact ⟨by kernel_rfl, fun j t ht => by
        rw [Tryd.params4] at ht
        have hm : t ∈ [33] := by simpa using Array.mem_of_getElem? ht
        have hall : ([33].all fun u => !Tryd.prog.wantsStandIn u) = true := by kernel_rfl
        exact (show Tryd.prog.wantsStandIn t = false by simpa using List.all_eq_true.1 hall t hm)⟩)
    (by kernel_rfl)
#print axioms codeShows_card
end Go.Proofs.YtjocifamacpamaaDoor
