/- CodeShows: the two loops, walked. Conditions: the table of powers that strconv reads is as the program lays it. -/
import Derived.Test.YtjocifamacpamaaDoorCs
import Derived.Deep.LoopGhost
namespace Go.Proofs.YtjocifamacpamaaDoor
open Go Go.RowKit
set_option linter.unusedVariables false
set_option linter.unusedSimpArgs false
/-- The words of a function, as they lie. -/
def WordsAt (W : World) (p : Option Addr) (xs : List Int) : Prop :=
  (∀ x ∈ xs, 0 ≤ x ∧ x < 4294967296) ∧ (xs = [] ∨ ∃ b o, p = some ⟨b, o, none⟩ ∧ b < W.heap.size ∧ ∀ (i : Nat) (h : i < xs.length), W.cell? ⟨b, o + i, none⟩ = some (.int .u32 xs[i]))
@[go_sem] theorem fld_33_2 (v0 v1 v2 v3 v4 v5 : Value) (w : World) : (Instr.field 33 (.agg #[v0, v1, v2, v3, v4, v5]) 2).run Tryd.prog w = .ok v2 w := by kernel_rfl
set_option maxRecDepth 10000 in
set_option maxHeartbeats 4000000 in
theorem codeShow_any (v0 v1 v3 v4 v5 : Value) (p : Option Addr) (xs : List Int) (cap : Nat) (hl : xs.length ≤ 2000) (w : World) (hw : WordsAt w p xs) (ht : Tab w) :
    Calls Tryd.prog 9 #[.agg #[v0, v1, .slice p xs.length cap, v3, v4, v5]] w fun e w' => e = .returned (.string (linesB xs xs.length)) ∧ Below w.heap.size w w' := by
  have HT : Hid (∀ W', Below w.heap.size w W' → Tab W') := fun W' hb => ht.below hb
  have Hw := hid hw
  clear hw ht
  go_enter Tryd.func9, Tryd.ntmps9
  go_wp2
  have HN := hid hl
  clear hl
  go_loopw [12] (fun i wr => ∃ k : Nat, k ≤ xs.length ∧ i = .int .i64 k ∧ Below w.heap.size w wr ∧ Lib.IsBuilder 66 5 w.heap.size (w.heap.size + 1) (Lib.strCells (linesB xs k)) wr) (fun i _ => xs.length - (intOf i).toNat)
  case atStart =>
    refine ⟨0, by omega, rfl, by repeat (first | exact Below.refl _ _ | refine bG ?_ _ | refine bI ?_ _ _ | refine bA ?_ _), ?_⟩
    refine .inl ⟨by omega, .slice none 0 0, ?_, World.ownsRow_nil _ _ _ _, by simp [Value.ownBlock]⟩
    have := heap_alloc_new (w.alloc (.cells #[v0, v1, .slice p xs.length cap, v3, v4, v5] 33)) (.cells #[.pointer none, .slice none 0 0] 66)
    rwa [show (w.alloc (.cells #[v0, v1, .slice p xs.length cap, v3, v4, v5] 33)).heap.size = w.heap.size + 1 by simp] at this
  case round =>
    obtain ⟨k, hk, rfl, hB, hI⟩ := hrel
    by_cases hlt : k < xs.length
    · have hk2 : k ≤ 2000 := by have := HN.out; omega
      obtain ⟨hx0, hx1⟩ := Hw.out.1 xs[k] (List.getElem_mem hlt)
      obtain ⟨b, o, rfl, hcell⟩ : ∃ b o, p = some ⟨b, o, none⟩ ∧ wr.cell? ⟨b, o + k, none⟩ = some (.int .u32 xs[k]) := by
        rcases Hw.out.2 with rfl | ⟨b, o, rfl, hb, hc⟩
        · simp at hlt
        · exact ⟨b, o, rfl, cell_later hB (hc k hlt)⟩
      have hT := txt_spec xs[k]
      have hLs := linesB_size xs k hk2
      have hls := lineB_size k xs[k] hk2
      unfold lineB at hls
      generalize hS : txt xs[k] = S at hT hls
      obtain ⟨hSs, hT⟩ := hT
      have hd := dec_any xs[k] hx0 hx1
      have hit := itoa_any k (by omega) (by omega)
      have his := itoaB_size k (by omega) (by omega)
      have hE : linesB xs (k + 1) = linesB xs k ++ (((itoaB k ++ ⟨#[58, 32]⟩) ++ S) ++ ⟨#[10]⟩) := by
        rw [← hS]
        show linesB xs k ++ lineB k (xs.getD k 0) = _
        rw [List.getD_eq_getElem?_getD, List.getElem?_eq_getElem hlt]
        rfl
      have HE := hid hE
      have HB := hid hB
      have HI := hid hI
      have Hit := hid hit
      have Hls := hid (And.intro hLs hls)
      clear hE hB hI hit hLs hls hS
      have hk0 : (0 : Int) ≤ (k : Int) := by omega
      have hk1 : (k : Int) < (xs.length : Int) := by omega
      rcases hT with ⟨hd2, rfl⟩ | ⟨n, a, b', c, d, hd2, h6, h7⟩
      · rw [hd2] at hd
        simp only [badV, insV] at hd
        have Hd := hid hd
        clear hd hd2
        go_wp2_with (first | (go_at_call 19; refine (Hd.out _).mono ?_; rintro e w2 ⟨rfl, hb⟩; obtain ⟨g1, rfl⟩ := bout hb; clear hb) | (go_at_call 15; refine (Hit.out _ (HT.out _ (by repeat (first | exact Below.refl _ _ | exact HB.out | refine bG ?_ _ | refine bI ?_ _ _ | refine bA ?_ _)))).mono ?_; rintro e w2 ⟨rfl, hb⟩; obtain ⟨g2, rfl⟩ := bout hb; clear hb) | (go_at_call 20; refine (writeString_any w.heap.size (w.heap.size + 1) _ _ _ (isBuilder_below HI.out (by repeat (first | exact Below.refl _ _ | exact HB.out | refine bG ?_ _ | refine bI ?_ _ _ | refine bA ?_ _))) (by have h := Hls.out; rw [Lib.strCells_length]; omega) (by have h := HB.out.size; simp; omega)).mono ?_; rintro e w2 ⟨rfl, hB2, hb2⟩; have hb3 := Below.trans (show Below w.heap.size w _ by repeat (first | exact Below.refl _ _ | exact HB.out | refine bG ?_ _ | refine bI ?_ _ _ | refine bA ?_ _)) hb2; clear hb2))
        go_roundw
        case rel =>
          refine ⟨k + 1, by omega, by go_num, hb3, .inr ?_⟩
          rw [strCells_append, ← HE.out] at hB2
          exact hB2
        case measure => simp [intOf]; omega
      · rw [hd2] at hd
        simp only [insV] at hd
        have Hd := hid hd
        have H6 := hid h6
        clear hd hd2 h6 h7
        go_wp2_with (first | (go_at_call 19; refine (Hd.out _).mono ?_; rintro e w2 ⟨rfl, hb⟩; obtain ⟨g1, rfl⟩ := bout hb; clear hb) | (go_at_call 15; refine (Hit.out _ (HT.out _ (by repeat (first | exact Below.refl _ _ | exact HB.out | refine bG ?_ _ | refine bI ?_ _ _ | refine bA ?_ _)))).mono ?_; rintro e w2 ⟨rfl, hb⟩; obtain ⟨g2, rfl⟩ := bout hb; clear hb) | (go_at_call 6; refine (H6.out _ (HT.out _ (by repeat (first | exact Below.refl _ _ | exact HB.out | refine bG ?_ _ | refine bI ?_ _ _ | refine bA ?_ _)))).mono ?_; rintro e w2 ⟨rfl, hb⟩; obtain ⟨g3, rfl⟩ := bout hb; clear hb) | (go_at_call 20; refine (writeString_any w.heap.size (w.heap.size + 1) _ _ _ (isBuilder_below HI.out (by repeat (first | exact Below.refl _ _ | exact HB.out | refine bG ?_ _ | refine bI ?_ _ _ | refine bA ?_ _))) (by have h := Hls.out; rw [Lib.strCells_length]; omega) (by have h := HB.out.size; simp; omega)).mono ?_; rintro e w2 ⟨rfl, hB2, hb2⟩; have hb3 := Below.trans (show Below w.heap.size w _ by repeat (first | exact Below.refl _ _ | exact HB.out | refine bG ?_ _ | refine bI ?_ _ _ | refine bA ?_ _)) hb2; clear hb2))
        go_roundw
        case rel =>
          refine ⟨k + 1, by omega, by go_num, hb3, .inr ?_⟩
          rw [strCells_append, ← HE.out] at hB2
          exact hB2
        case measure => simp [intOf]; omega
    · obtain rfl : k = xs.length := by omega
      have HB := hid hB
      have HI := hid hI
      clear hB hI
      go_wp2_with (go_at_call 21; refine (Tryd.Builder_String_any w.heap.size (w.heap.size + 1) (linesB xs xs.length).data.toList _ HI.out HB.out.size).mono ?_; rintro e w2 ⟨rfl, hb2⟩; have hb3 := HB.out.trans hb2; clear hb2)
      go_ret
      exact ⟨rfl, hb3⟩
end Go.Proofs.YtjocifamacpamaaDoor
