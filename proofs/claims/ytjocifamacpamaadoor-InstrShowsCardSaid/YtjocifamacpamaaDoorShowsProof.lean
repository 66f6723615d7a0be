/- InstrShows: any instruction as a text, as the reference shows it. Conditions: the three tables of strconv and math/bits are as the program's text lays them (tied). -/
import Derived.Test.YtjocifamacpamaaDoorShowB
import Derived.Test.YtjocifamacpamaaDoorTie
import Derived.Test.YtjocifamacpamaaDoorCards
import Derived.ProofKit
import Derived.OpenShut
import Derived.LaidMore
import Derived.Lay
import Derived.SevenTiedAt
import Derived.Stop.Joined
namespace Go.Proofs.YtjocifamacpamaaDoor
open Go Go.ChangeShapes Go.WideShapes Go.ChangeAt Go.RowKit
set_option linter.unusedVariables false
set_option linter.unusedSimpArgs false
theorem Tryd.own : ownKnob Tryd.prog.godebug = none := by kernel_rfl
theorem Tryd.laidOut : laidOutB Tryd.prog = true := by kernel_rfl

theorem Tryd.cells23 : Tryd.prog.cellsOf 23 = 5 := by kernel_rfl
theorem Tryd.cells3 : Tryd.prog.cellsOf 3 = 1 := by kernel_rfl
set_option maxRecDepth 100000 in
/-- A struct of five ints, by value. -/
theorem open_ins {H : Type} {enc : TypeId × Value → H} {w : World} {base : Nat} {spare : Nat → Bool} {held : Bool} {r : Reach} {b0 : Nat} {v : Value} {d : DataW H} {p : List MemPlace} (hv : Value.okWide Tryd.prog w r b0 23 v) (h : DataW.Trod enc Tryd.prog w base spare held 23 v d p) :
    ∃ n a b c d : Int, v = .agg #[.int .i64 n, .int .i64 a, .int .i64 b, .int .i64 c, .int .i64 d] := by
  obtain ⟨cs, k, rfl, hl, hf⟩ := open_struct Tryd.underlying23 hv h
  rw [Tryd.cells23] at hl
  match cs, hl with
  | [c0, c1, c2, c3, c4], _ =>
    obtain ⟨y0, h0⟩ : ∃ y, DataW.trod enc Tryd.prog w base spare held k 3 (([c0, c1, c2, c3, c4].drop 0).take (Tryd.prog.cellsOf 3)) = some y := hf 0 _ rfl
    obtain ⟨y1, h1⟩ : ∃ y, DataW.trod enc Tryd.prog w base spare held k 3 (([c0, c1, c2, c3, c4].drop 1).take (Tryd.prog.cellsOf 3)) = some y := hf 1 _ rfl
    obtain ⟨y2, h2⟩ : ∃ y, DataW.trod enc Tryd.prog w base spare held k 3 (([c0, c1, c2, c3, c4].drop 2).take (Tryd.prog.cellsOf 3)) = some y := hf 2 _ rfl
    obtain ⟨y3, h3⟩ : ∃ y, DataW.trod enc Tryd.prog w base spare held k 3 (([c0, c1, c2, c3, c4].drop 3).take (Tryd.prog.cellsOf 3)) = some y := hf 3 _ rfl
    obtain ⟨y4, h4⟩ : ∃ y, DataW.trod enc Tryd.prog w base spare held k 3 (([c0, c1, c2, c3, c4].drop 4).take (Tryd.prog.cellsOf 3)) = some y := hf 4 _ rfl
    simp only [Tryd.cells3] at h0 h1 h2 h3 h4
    obtain ⟨n0, e0, _⟩ := DataW.trod_int Tryd.underlying3 h0
    obtain ⟨n1, e1, _⟩ := DataW.trod_int Tryd.underlying3 h1
    obtain ⟨n2, e2, _⟩ := DataW.trod_int Tryd.underlying3 h2
    obtain ⟨n3, e3, _⟩ := DataW.trod_int Tryd.underlying3 h3
    obtain ⟨n4, e4, _⟩ := DataW.trod_int Tryd.underlying3 h4
    simp at e0 e1 e2 e3 e4
    subst e0 e1 e2 e3 e4
    exact ⟨n0, n1, n2, n3, n4, rfl⟩


theorem laid_rest {P : Program} {x : String × DataW Unit} {r : List (String × DataW Unit)} {w : World} (h : laidMet P (x :: r) w) : laidMet P r w := by
  obtain ⟨ps, ⟨g, t, cs, fuel, p, q, hg, ht, hv, hd, hr, rfl⟩, hn, hc⟩ := h
  exact ⟨q, hr, (List.nodup_append.1 hn).2.1, fun b off hb => hc b off (List.mem_append_right _ hb)⟩
theorem tab_of_laid {W : World} (h : laidMetH Tryd.prog Rows.instrShowsRow.laid W) : Tab W := by
  rw [MakeChecks.laidMetH_plain _ _ _ (by kernel_rfl)] at h
  exact Lib.tabIs_of_head Tryd.pow10 (by kernel_rfl) Tryd.underlying124 Tryd.underlying52 (by kernel_rfl) (by kernel_rfl) (laid_rest (laid_rest h))
set_option maxRecDepth 100000 in
theorem instrShows_lifted (os : Os) (started : os.Started) (H : Type) (enc : TypeId × Value → H) :
    ReturnsInHanded {} Tryd.checked os 3 .any (fun w args => (Rows.instrShowsSpec.pre enc Tryd.prog Tryd.f3 Rows.instrShowsRow.domain false w args ∧ laidMetH Tryd.prog Rows.instrShowsRow.laid w) ∧ sizedMet enc Tryd.prog Tryd.f3 (OpenSpec.ofChange Rows.instrShowsSpec) false w args)
      (Rows.instrShowsSpec.post enc Tryd.prog Tryd.f3 false true false false) := by
  refine returnsInHanded_of_change_and (C := Tryd.checked) (X := fun w _ => laidMetH Tryd.prog Rows.instrShowsRow.laid w) (fun _ _ _ hh h => h.of_heap hh) Tryd.own started (by kernel_rfl) Tryd.func3
    (ChangeSpec.witness_shaped (enc := enc) (C := Tryd.checked) (os := os) (X := fun w _ => laidMetH Tryd.prog Rows.instrShowsRow.laid w) false (World.laidAll Tryd.prog os Rows.instrShowsRow.laid) #[.agg #[.int .i64 0, .int .i64 0, .int .i64 0, .int .i64 0, .int .i64 0]] 8 (World.laidAll_os _ _ _)
      (World.shaped_of_ZipB (by kernel_rfl) (by kernel_rfl)) (by kernel_rfl) (by kernel_rfl) (by kernel_rfl)
      (by rw [MakeChecks.laidMetH_plain _ _ _ (by kernel_rfl)]; exact laidMet_laidAll _ (by kernel_rfl) (by kernel_rfl))) ?_
  intro W base args ds gs before hval0 hW hcnd _ hL _
  have hval : ∀ (j : Nat) t v, Tryd.f3.params[j]? = some t → args[j]? = some v → Value.okWide Tryd.prog W .any base t v := hval0
  have hW' := hW
  obtain ⟨p, q, hA0, hV, rfl, hfz, hnd⟩ := hW
  have hA : DataW.TrodAll enc Tryd.prog W 0 (fun _ => true) true Tryd.f3.params.toList args.toList ds p := hA0
  rw [Tryd.params3] at hA hval
  obtain ⟨v0, d0, rfl, rfl, h0⟩ := trodAll_one hA
  obtain ⟨n, a, b, c, d, rfl⟩ := open_ins (hval 0 23 v0 rfl rfl) h0
  exact law_close Tryd.laidOut (by kernel_rfl) rfl rfl Tryd.underlying4 hW' ⟨rfl, rfl, rfl⟩ (shows_any n a b c d W (tab_of_laid hL))
theorem instrShows_holds : Rows.InstrShowsSaid :=
  OpenClaim.holds_of_wide 3 Tryd.f3 rfl rfl rfl rfl rfl rfl rfl ⟨rfl, rfl, rfl, rfl, rfl⟩ rfl rfl rfl rfl rfl (by kernel_rfl) Tryd.func3 (by kernel_rfl)
    (of_decide_eq_true (by kernel_rfl)) (by unfold Func.isWrapper; first | (rw [if_pos (by decide +kernel)]; kernel_rfl) | (rw [if_neg (by decide +kernel)]; exact ⟨rfl, rfl⟩))
    (fun os started H enc _ => instrShows_lifted os started H enc)
theorem instrShows_card : Rows.InstrShowsCardSaid :=
  Claim7.holds_tied_plain_at .later [] [.data, .data, .data] true (true, "515876b6411bd0d2af1007d5d8fcf6feeae8ca4269b93ae658cd324eb5a253d7") true instrShows_holds (fun _ h => by cases h) (by kernel_rfl) (fun _ h => by cases h) instrShows_row_tie rfl ⟨rfl, rfl⟩ (by kernel_rfl) rfl
    (fun f fn hf hfn => by
      obtain rfl : f = 3 := Option.some.inj ((show Tryd.prog.funcNamed "ravelin/ravelinlaw15.InstrShows" = some 3 by kernel_rfl).symm.trans hf) |>.symm
      obtain rfl : fn = Tryd.f3 := (Option.some.inj (Tryd.func3.symm.trans hfn)).symm
      exact ⟨by kernel_rfl, fun j t ht => by
        rw [Tryd.params3] at ht
        have hm : t ∈ [23] := by simpa using Array.mem_of_getElem? ht
        have hall : ([23].all fun u => !Tryd.prog.wantsStandIn u) = true := by kernel_rfl
        exact (show Tryd.prog.wantsStandIn t = false by simpa using List.all_eq_true.1 hall t hm)⟩)
    (by kernel_rfl)
#print axioms instrShows_card
end Go.Proofs.YtjocifamacpamaaDoor
