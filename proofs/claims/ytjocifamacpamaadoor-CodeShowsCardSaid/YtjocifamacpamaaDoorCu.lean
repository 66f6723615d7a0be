/- CodeShows: the reference's loop, walked. Conditions: the table of powers that strconv reads is as the program lays it. -/
import Derived.Test.YtjocifamacpamaaDoorCt
namespace Go.Proofs.YtjocifamacpamaaDoor
open Go Go.RowKit
set_option linter.unusedVariables false
set_option linter.unusedSimpArgs false
set_option maxRecDepth 10000 in
set_option maxHeartbeats 4000000 in
theorem refCodeShow_any (v0 v1 v3 v4 v5 : Value) (p : Option Addr) (xs : List Int) (cap : Nat) (hl : xs.length ≤ 2000) (w : World) (hw : WordsAt w p xs) (ht : Tab w) :
    Calls Tryd.prog 10 #[.agg #[v0, v1, .slice p xs.length cap, v3, v4, v5]] w fun e w' => e = .returned (.string (linesB xs xs.length)) ∧ Below w.heap.size w w' := by
  have HT : Hid (∀ W', Below w.heap.size w W' → Tab W') := fun W' hb => ht.below hb
  have Hw := hid hw
  clear hw ht
  go_enter Tryd.func10, Tryd.ntmps10
  go_wp2
  have HN := hid hl
  clear hl
  go_loopw [3, 12] (fun s i wr => ∃ k : Nat, k ≤ xs.length ∧ i = .int .i64 k ∧ s = .string (linesB xs k) ∧ Below w.heap.size w wr) (fun _ i _ => xs.length - (intOf i).toNat)
  case atStart =>
    exact ⟨0, by omega, rfl, rfl, by repeat (first | exact Below.refl _ _ | refine bG ?_ _ | refine bI ?_ _ _ | refine bA ?_ _)⟩
  case round =>
    obtain ⟨k, hk, rfl, rfl, hB⟩ := hrel
    by_cases hlt : k < xs.length
    · have hk2 : k ≤ 2000 := by have := HN.out; omega
      obtain ⟨hx0, hx1⟩ := Hw.out.1 xs[k] (List.getElem_mem hlt)
      obtain ⟨b, o, rfl, hcell⟩ : ∃ b o, p = some ⟨b, o, none⟩ ∧ wr.cell? ⟨b, o + k, none⟩ = some (.int .u32 xs[k]) := by
        rcases Hw.out.2 with rfl | ⟨b, o, rfl, hb, hc⟩
        · simp at hlt
        · exact ⟨b, o, rfl, cell_later hB (hc k hlt)⟩
      have hT := txt_spec xs[k]
      have hLs := linesB_size xs k hk2
      have hls := lineB_size k xs[k] hk2
      unfold lineB at hls
      generalize hS : txt xs[k] = S at hT hls
      obtain ⟨hSs, hT⟩ := hT
      have hd := refDec_any xs[k] hx0 hx1
      have hit := itoa_any k (by omega) (by omega)
      have his := itoaB_size k (by omega) (by omega)
      have hE : linesB xs (k + 1) = linesB xs k ++ (((itoaB k ++ ⟨#[58, 32]⟩) ++ S) ++ ⟨#[10]⟩) := by
        rw [← hS]
        show linesB xs k ++ lineB k (xs.getD k 0) = _
        rw [List.getD_eq_getElem?_getD, List.getElem?_eq_getElem hlt]
        rfl
      have HE := hid hE
      have HB := hid hB
      have Hit := hid hit
      have hLs2 : (linesB xs k).size ≤ 248000 := by omega
      clear hE hB hit hLs hS
      have hk0 : (0 : Int) ≤ (k : Int) := by omega
      have hk1 : (k : Int) < (xs.length : Int) := by omega
      rcases hT with ⟨hd2, rfl⟩ | ⟨n, a, b', c, d, hd2, h6, h7⟩
      · rw [hd2] at hd
        simp only [badV, insV] at hd
        have Hd := hid hd
        clear hd hd2
        go_wp2_with (first | (go_at_call 22; refine (Hd.out _).mono ?_; rintro e w2 ⟨rfl, hb⟩; obtain ⟨g1, rfl⟩ := bout hb; clear hb) | (go_at_call 15; refine (Hit.out _ (HT.out _ (by repeat (first | exact Below.refl _ _ | exact HB.out | refine bG ?_ _ | refine bI ?_ _ _ | refine bA ?_ _)))).mono ?_; rintro e w2 ⟨rfl, hb⟩; obtain ⟨g2, rfl⟩ := bout hb; clear hb))
        go_roundw
        case rel =>
          exact ⟨k + 1, by omega, by go_num, by rw [HE.out], by repeat (first | exact Below.refl _ _ | exact HB.out | refine bG ?_ _ | refine bI ?_ _ _ | refine bA ?_ _)⟩
        case measure => simp [intOf]; omega
      · rw [hd2] at hd
        simp only [insV] at hd
        have Hd := hid hd
        have H7 := hid h7
        clear hd hd2 h6 h7
        go_wp2_with (first | (go_at_call 22; refine (Hd.out _).mono ?_; rintro e w2 ⟨rfl, hb⟩; obtain ⟨g1, rfl⟩ := bout hb; clear hb) | (go_at_call 15; refine (Hit.out _ (HT.out _ (by repeat (first | exact Below.refl _ _ | exact HB.out | refine bG ?_ _ | refine bI ?_ _ _ | refine bA ?_ _)))).mono ?_; rintro e w2 ⟨rfl, hb⟩; obtain ⟨g2, rfl⟩ := bout hb; clear hb) | (go_at_call 7; refine (H7.out _ (HT.out _ (by repeat (first | exact Below.refl _ _ | exact HB.out | refine bG ?_ _ | refine bI ?_ _ _ | refine bA ?_ _)))).mono ?_; rintro e w2 ⟨rfl, hb⟩; obtain ⟨g3, rfl⟩ := bout hb; clear hb))
        go_roundw
        case rel =>
          exact ⟨k + 1, by omega, by go_num, by rw [HE.out], by repeat (first | exact Below.refl _ _ | exact HB.out | refine bG ?_ _ | refine bI ?_ _ _ | refine bA ?_ _)⟩
        case measure => simp [intOf]; omega
    · obtain rfl : k = xs.length := by omega
      go_wp2
      go_ret
      exact ⟨rfl, hB⟩
end Go.Proofs.YtjocifamacpamaaDoor
