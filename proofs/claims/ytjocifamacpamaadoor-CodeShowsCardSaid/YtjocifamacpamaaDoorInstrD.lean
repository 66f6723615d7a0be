/- The reference of instr: its rows. Conditions: none. -/
import Derived.Test.YtjocifamacpamaaDoorInstrC
namespace Go.Proofs.YtjocifamacpamaaDoor
open Go.RowKit

def keyS : Nat → Int
  | 0 => 11
  | 1 => 12
  | 2 => 13
  | 3 => 14
  | 4 => 15
  | 5 => 16
  | 6 => 17
  | 7 => 18
  | 8 => 19
  | 9 => 21
  | 10 => 22
  | 11 => 23
  | 12 => 24
  | 13 => 25
  | 14 => 26
  | 15 => 27
  | 16 => 30
  | 17 => 31
  | 18 => 32
  | 19 => 34
  | 20 => 35
  | 21 => 36
  | 22 => 37
  | 23 => 40
  | 24 => 41
  | 25 => 42
  | 26 => 43
  | 27 => 44
  | 28 => 45
  | 29 => 46
  | 30 => 47
  | 31 => 49
  | 32 => 50
  | 33 => 51
  | 34 => 52
  | 35 => 53
  | 36 => 54
  | 37 => 55
  | 38 => 56
  | 39 => 57
  | 40 => 58
  | 41 => 59
  | 42 => 60
  | 43 => 61
  | 44 => 62
  | _ => 0
def nmC : Array Value := #[.string ⟨#[97, 100, 100]⟩, .string ⟨#[115, 117, 98]⟩, .string ⟨#[109, 117, 108]⟩, .string ⟨#[100, 105, 118]⟩, .string ⟨#[109, 111, 100]⟩, .string ⟨#[108, 116]⟩, .string ⟨#[108, 101]⟩, .string ⟨#[101, 113]⟩, .string ⟨#[99, 97, 116]⟩, .string ⟨#[97, 100, 100, 105]⟩, .string ⟨#[115, 117, 98, 105]⟩, .string ⟨#[109, 117, 108, 105]⟩, .string ⟨#[100, 105, 118, 105]⟩, .string ⟨#[109, 111, 100, 105]⟩, .string ⟨#[108, 116, 105]⟩, .string ⟨#[108, 101, 105]⟩, .string ⟨#[110, 101, 103]⟩, .string ⟨#[110, 111, 116]⟩, .string ⟨#[108, 101, 110]⟩, .string ⟨#[106, 117, 109, 112]⟩, .string ⟨#[98, 114, 102]⟩, .string ⟨#[98, 114, 116]⟩, .string ⟨#[106, 111, 105, 110]⟩, .string ⟨#[99, 108, 111, 115, 117, 114, 101]⟩, .string ⟨#[99, 97, 108, 108]⟩, .string ⟨#[114, 101, 116, 117, 114, 110]⟩, .string ⟨#[116, 97, 98, 108, 101]⟩, .string ⟨#[115, 116, 97, 109, 112]⟩, .string ⟨#[103, 101, 116, 102]⟩, .string ⟨#[103, 101, 116, 115]⟩, .string ⟨#[115, 101, 116, 102]⟩, .string ⟨#[103, 101, 116, 105]⟩, .string ⟨#[115, 101, 116, 105]⟩, .string ⟨#[114, 101, 97, 100]⟩, .string ⟨#[119, 114, 105, 116, 101]⟩, .string ⟨#[116, 121, 112, 101]⟩, .string ⟨#[107, 101, 121]⟩, .string ⟨#[112, 99, 97, 108, 108]⟩, .string ⟨#[101, 114, 114, 111, 114]⟩, .string ⟨#[99, 114, 101, 97, 116, 101]⟩, .string ⟨#[114, 101, 115, 117, 109, 101]⟩, .string ⟨#[121, 105, 101, 108, 100]⟩, .string ⟨#[115, 116, 97, 116, 117, 115]⟩, .string ⟨#[99, 97, 115, 116]⟩, .string ⟨#[98, 111, 117, 110, 100]⟩]
def fmC : Array Value := #[.string ⟨#[65, 66, 67]⟩, .string ⟨#[65, 66, 67]⟩, .string ⟨#[65, 66, 67]⟩, .string ⟨#[65, 66, 67]⟩, .string ⟨#[65, 66, 67]⟩, .string ⟨#[65, 66, 67]⟩, .string ⟨#[65, 66, 67]⟩, .string ⟨#[65, 66, 67]⟩, .string ⟨#[65, 66, 67]⟩, .string ⟨#[65, 66, 67]⟩, .string ⟨#[65, 66, 67]⟩, .string ⟨#[65, 66, 67]⟩, .string ⟨#[65, 66, 67]⟩, .string ⟨#[65, 66, 67]⟩, .string ⟨#[65, 66, 67]⟩, .string ⟨#[65, 66, 67]⟩, .string ⟨#[65, 66]⟩, .string ⟨#[65, 66]⟩, .string ⟨#[65, 66]⟩, .string ⟨#[68]⟩, .string ⟨#[65, 68]⟩, .string ⟨#[65, 68]⟩, .string ⟨#[68]⟩, .string ⟨#[65, 68]⟩, .string ⟨#[65, 66, 67]⟩, .string ⟨#[65]⟩, .string ⟨#[65]⟩, .string ⟨#[65, 68]⟩, .string ⟨#[65, 66, 67]⟩, .string ⟨#[65, 66, 67]⟩, .string ⟨#[65, 66, 67]⟩, .string ⟨#[65, 66, 67]⟩, .string ⟨#[65, 66, 67]⟩, .string ⟨#[65, 68]⟩, .string ⟨#[65, 68]⟩, .string ⟨#[65, 66]⟩, .string ⟨#[65, 66, 67]⟩, .string ⟨#[65]⟩, .string ⟨#[65]⟩, .string ⟨#[65]⟩, .string ⟨#[65, 66]⟩, .string ⟨#[65]⟩, .string ⟨#[65, 66]⟩, .string ⟨#[65, 68]⟩, .string ⟨#[65, 68]⟩]
def kyC : Array Value := #[.int .i64 11, .int .i64 12, .int .i64 13, .int .i64 14, .int .i64 15, .int .i64 16, .int .i64 17, .int .i64 18, .int .i64 19, .int .i64 21, .int .i64 22, .int .i64 23, .int .i64 24, .int .i64 25, .int .i64 26, .int .i64 27, .int .i64 30, .int .i64 31, .int .i64 32, .int .i64 34, .int .i64 35, .int .i64 36, .int .i64 37, .int .i64 40, .int .i64 41, .int .i64 42, .int .i64 43, .int .i64 44, .int .i64 45, .int .i64 46, .int .i64 47, .int .i64 49, .int .i64 50, .int .i64 51, .int .i64 52, .int .i64 53, .int .i64 54, .int .i64 55, .int .i64 56, .int .i64 57, .int .i64 58, .int .i64 59, .int .i64 60, .int .i64 61, .int .i64 62]

theorem kyC_at (k : Nat) (h : k < 45) : kyC[k]? = some (.int .i64 (keyS k)) := by
  match k, h with
  | 0, _ => rfl
  | 1, _ => rfl
  | 2, _ => rfl
  | 3, _ => rfl
  | 4, _ => rfl
  | 5, _ => rfl
  | 6, _ => rfl
  | 7, _ => rfl
  | 8, _ => rfl
  | 9, _ => rfl
  | 10, _ => rfl
  | 11, _ => rfl
  | 12, _ => rfl
  | 13, _ => rfl
  | 14, _ => rfl
  | 15, _ => rfl
  | 16, _ => rfl
  | 17, _ => rfl
  | 18, _ => rfl
  | 19, _ => rfl
  | 20, _ => rfl
  | 21, _ => rfl
  | 22, _ => rfl
  | 23, _ => rfl
  | 24, _ => rfl
  | 25, _ => rfl
  | 26, _ => rfl
  | 27, _ => rfl
  | 28, _ => rfl
  | 29, _ => rfl
  | 30, _ => rfl
  | 31, _ => rfl
  | 32, _ => rfl
  | 33, _ => rfl
  | 34, _ => rfl
  | 35, _ => rfl
  | 36, _ => rfl
  | 37, _ => rfl
  | 38, _ => rfl
  | 39, _ => rfl
  | 40, _ => rfl
  | 41, _ => rfl
  | 42, _ => rfl
  | 43, _ => rfl
  | 44, _ => rfl
  | k + 45, h => exact absurd h (by omega)
theorem nmC_at (k : Nat) (h : k < 45) : nmC[k]? = some (.string (nmI (keyS k))) := by
  match k, h with
  | 0, _ => rfl
  | 1, _ => rfl
  | 2, _ => rfl
  | 3, _ => rfl
  | 4, _ => rfl
  | 5, _ => rfl
  | 6, _ => rfl
  | 7, _ => rfl
  | 8, _ => rfl
  | 9, _ => rfl
  | 10, _ => rfl
  | 11, _ => rfl
  | 12, _ => rfl
  | 13, _ => rfl
  | 14, _ => rfl
  | 15, _ => rfl
  | 16, _ => rfl
  | 17, _ => rfl
  | 18, _ => rfl
  | 19, _ => rfl
  | 20, _ => rfl
  | 21, _ => rfl
  | 22, _ => rfl
  | 23, _ => rfl
  | 24, _ => rfl
  | 25, _ => rfl
  | 26, _ => rfl
  | 27, _ => rfl
  | 28, _ => rfl
  | 29, _ => rfl
  | 30, _ => rfl
  | 31, _ => rfl
  | 32, _ => rfl
  | 33, _ => rfl
  | 34, _ => rfl
  | 35, _ => rfl
  | 36, _ => rfl
  | 37, _ => rfl
  | 38, _ => rfl
  | 39, _ => rfl
  | 40, _ => rfl
  | 41, _ => rfl
  | 42, _ => rfl
  | 43, _ => rfl
  | 44, _ => rfl
  | k + 45, h => exact absurd h (by omega)
theorem fmC_at (k : Nat) (h : k < 45) : fmC[k]? = some (.string (fmI (keyS k))) := by
  match k, h with
  | 0, _ => rfl
  | 1, _ => rfl
  | 2, _ => rfl
  | 3, _ => rfl
  | 4, _ => rfl
  | 5, _ => rfl
  | 6, _ => rfl
  | 7, _ => rfl
  | 8, _ => rfl
  | 9, _ => rfl
  | 10, _ => rfl
  | 11, _ => rfl
  | 12, _ => rfl
  | 13, _ => rfl
  | 14, _ => rfl
  | 15, _ => rfl
  | 16, _ => rfl
  | 17, _ => rfl
  | 18, _ => rfl
  | 19, _ => rfl
  | 20, _ => rfl
  | 21, _ => rfl
  | 22, _ => rfl
  | 23, _ => rfl
  | 24, _ => rfl
  | 25, _ => rfl
  | 26, _ => rfl
  | 27, _ => rfl
  | 28, _ => rfl
  | 29, _ => rfl
  | 30, _ => rfl
  | 31, _ => rfl
  | 32, _ => rfl
  | 33, _ => rfl
  | 34, _ => rfl
  | 35, _ => rfl
  | 36, _ => rfl
  | 37, _ => rfl
  | 38, _ => rfl
  | 39, _ => rfl
  | 40, _ => rfl
  | 41, _ => rfl
  | 42, _ => rfl
  | 43, _ => rfl
  | 44, _ => rfl
  | k + 45, h => exact absurd h (by omega)
theorem key_none (n : Int) (h11 : 11 ≤ n) (h : ∀ k : Nat, k < 45 → keyS k ≠ n) : nmI n = ⟨#[]⟩ ∧ fmI n = ⟨#[]⟩ := by
  by_cases hb : 63 ≤ n
  · exact ⟨nmI_out n (Or.inr hb), fmI_out n (Or.inr hb)⟩
  obtain ⟨m, rfl⟩ := Int.eq_ofNat_of_zero_le (by omega : 0 ≤ n)
  have e1 : nmI (m : Int) = nmN m := by simp [nmI]
  have e2 : fmI (m : Int) = fmN m := by simp [fmI]
  rw [e1, e2]
  have hm : m < 63 := by omega
  have hl : 11 ≤ m := by omega
  clear e1 e2 hb h11
  match m, hm with
  | 0, _ => omega
  | 1, _ => omega
  | 2, _ => omega
  | 3, _ => omega
  | 4, _ => omega
  | 5, _ => omega
  | 6, _ => omega
  | 7, _ => omega
  | 8, _ => omega
  | 9, _ => omega
  | 10, _ => omega
  | 11, _ => exact absurd rfl (h 0 (by decide))
  | 12, _ => exact absurd rfl (h 1 (by decide))
  | 13, _ => exact absurd rfl (h 2 (by decide))
  | 14, _ => exact absurd rfl (h 3 (by decide))
  | 15, _ => exact absurd rfl (h 4 (by decide))
  | 16, _ => exact absurd rfl (h 5 (by decide))
  | 17, _ => exact absurd rfl (h 6 (by decide))
  | 18, _ => exact absurd rfl (h 7 (by decide))
  | 19, _ => exact absurd rfl (h 8 (by decide))
  | 20, _ => exact ⟨rfl, rfl⟩
  | 21, _ => exact absurd rfl (h 9 (by decide))
  | 22, _ => exact absurd rfl (h 10 (by decide))
  | 23, _ => exact absurd rfl (h 11 (by decide))
  | 24, _ => exact absurd rfl (h 12 (by decide))
  | 25, _ => exact absurd rfl (h 13 (by decide))
  | 26, _ => exact absurd rfl (h 14 (by decide))
  | 27, _ => exact absurd rfl (h 15 (by decide))
  | 28, _ => exact ⟨rfl, rfl⟩
  | 29, _ => exact ⟨rfl, rfl⟩
  | 30, _ => exact absurd rfl (h 16 (by decide))
  | 31, _ => exact absurd rfl (h 17 (by decide))
  | 32, _ => exact absurd rfl (h 18 (by decide))
  | 33, _ => exact ⟨rfl, rfl⟩
  | 34, _ => exact absurd rfl (h 19 (by decide))
  | 35, _ => exact absurd rfl (h 20 (by decide))
  | 36, _ => exact absurd rfl (h 21 (by decide))
  | 37, _ => exact absurd rfl (h 22 (by decide))
  | 38, _ => exact ⟨rfl, rfl⟩
  | 39, _ => exact ⟨rfl, rfl⟩
  | 40, _ => exact absurd rfl (h 23 (by decide))
  | 41, _ => exact absurd rfl (h 24 (by decide))
  | 42, _ => exact absurd rfl (h 25 (by decide))
  | 43, _ => exact absurd rfl (h 26 (by decide))
  | 44, _ => exact absurd rfl (h 27 (by decide))
  | 45, _ => exact absurd rfl (h 28 (by decide))
  | 46, _ => exact absurd rfl (h 29 (by decide))
  | 47, _ => exact absurd rfl (h 30 (by decide))
  | 48, _ => exact ⟨rfl, rfl⟩
  | 49, _ => exact absurd rfl (h 31 (by decide))
  | 50, _ => exact absurd rfl (h 32 (by decide))
  | 51, _ => exact absurd rfl (h 33 (by decide))
  | 52, _ => exact absurd rfl (h 34 (by decide))
  | 53, _ => exact absurd rfl (h 35 (by decide))
  | 54, _ => exact absurd rfl (h 36 (by decide))
  | 55, _ => exact absurd rfl (h 37 (by decide))
  | 56, _ => exact absurd rfl (h 38 (by decide))
  | 57, _ => exact absurd rfl (h 39 (by decide))
  | 58, _ => exact absurd rfl (h 40 (by decide))
  | 59, _ => exact absurd rfl (h 41 (by decide))
  | 60, _ => exact absurd rfl (h 42 (by decide))
  | 61, _ => exact absurd rfl (h 43 (by decide))
  | 62, _ => exact absurd rfl (h 44 (by decide))
  | m + 63, hm => exact absurd hm (by omega)

set_option maxRecDepth 100000 in
set_option maxHeartbeats 1000000 in
theorem second_any (n : Int) (hn : 11 ≤ n) (w : World) : Calls Tryd.prog 28 #[.int .i64 n] w fun e w' => e = .returned (.tuple #[.string (nmI n), .string (fmI n)]) ∧ Below w.heap.size w w' := by
  have hB : Below w.heap.size w (((w.alloc (.cells nmC 9)).alloc (.cells fmC 9)).alloc (.cells kyC 3)) := bA (bA (bA (Below.refl _ _) _) _) _
  have hk : ∀ k, k < 45 → (((w.alloc (.cells nmC 9)).alloc (.cells fmC 9)).alloc (.cells kyC 3)).cell? ⟨((w.alloc (.cells nmC 9)).alloc (.cells fmC 9)).heap.size, k, none⟩ = some (.int .i64 (keyS k)) := fun k h => by
    rw [World.cell?_alloc_at _ _ _ _ rfl]; exact kyC_at k h
  have hf : ∀ k, k < 45 → (((w.alloc (.cells nmC 9)).alloc (.cells fmC 9)).alloc (.cells kyC 3)).cell? ⟨(w.alloc (.cells nmC 9)).heap.size, k, none⟩ = some (.string (fmI (keyS k))) := fun k h => by
    rw [World.cell?_alloc_past _ _ _ (by simp), World.cell?_alloc_at _ _ _ _ rfl]; exact fmC_at k h
  have hm : ∀ k, k < 45 → (((w.alloc (.cells nmC 9)).alloc (.cells fmC 9)).alloc (.cells kyC 3)).cell? ⟨w.heap.size, k, none⟩ = some (.string (nmI (keyS k))) := fun k h => by
    rw [World.cell?_alloc_past _ _ _ (by simp; omega), World.cell?_alloc_past _ _ _ (by simp), World.cell?_alloc_at _ _ _ _ rfl]; exact nmC_at k h
  go_enter Tryd.func28, Tryd.ntmps28
  refine wp_seq (wp_region_list ?_)
  refine wpList_run 2 (a' := { tmps := #[.int .i64 n, undef, .string ⟨#[]⟩, .string ⟨#[]⟩] ++ Array.replicate 25 undef, defers := [] }) (w' := w) (by as_aux_lemma => kernel_rfl) (wpList_nil ?_)
  refine wp_seq (wp_region_list ?_)
  refine wpList_run 2 (a' := { tmps := #[.int .i64 n, undef, .string ⟨#[]⟩, .string ⟨#[]⟩, .slice (some ⟨w.heap.size, 0, none⟩) 45 45, undef, undef, undef, .slice (some ⟨w.heap.size, 0, none⟩) 45 45] ++ Array.replicate 20 undef, defers := [] }) (w' := w.alloc (.cells nmC 9)) (by as_aux_lemma => kernel_rfl) (wpList_nil ?_)
  refine wp_seq (wp_region_list ?_)
  refine wpList_run 2 (a' := { tmps := #[.int .i64 n, undef, .string ⟨#[]⟩, .string ⟨#[]⟩, .slice (some ⟨w.heap.size, 0, none⟩) 45 45, .slice (some ⟨(w.alloc (.cells nmC 9)).heap.size, 0, none⟩) 45 45, undef, undef, .slice (some ⟨w.heap.size, 0, none⟩) 45 45, .slice (some ⟨(w.alloc (.cells nmC 9)).heap.size, 0, none⟩) 45 45] ++ Array.replicate 19 undef, defers := [] }) (w' := (w.alloc (.cells nmC 9)).alloc (.cells fmC 9)) (by as_aux_lemma => kernel_rfl) (wpList_nil ?_)
  refine wp_seq (wp_seq (wp_region_list ?_))
  refine wpList_run 3 (a' := { tmps := #[.int .i64 n, undef, .string ⟨#[]⟩, .string ⟨#[]⟩, .slice (some ⟨w.heap.size, 0, none⟩) 45 45, .slice (some ⟨(w.alloc (.cells nmC 9)).heap.size, 0, none⟩) 45 45, undef, undef, .slice (some ⟨w.heap.size, 0, none⟩) 45 45, .slice (some ⟨(w.alloc (.cells nmC 9)).heap.size, 0, none⟩) 45 45, .slice (some ⟨((w.alloc (.cells nmC 9)).alloc (.cells fmC 9)).heap.size, 0, none⟩) 45 45, .int .i64 45, .int .i64 0] ++ Array.replicate 16 undef, defers := [] }) (w' := ((w.alloc (.cells nmC 9)).alloc (.cells fmC 9)).alloc (.cells kyC 3)) (by as_aux_lemma => kernel_rfl) (wpList_nil ?_)
  generalize ((w.alloc (.cells nmC 9)).alloc (.cells fmC 9)).heap.size = A3 at *
  generalize (w.alloc (.cells nmC 9)).heap.size = A2 at *
  generalize ((w.alloc (.cells nmC 9)).alloc (.cells fmC 9)).alloc (.cells kyC 3) = W at *
  generalize w.heap.size = A1 at *
  have HK := hid hk
  have HM := hid hm
  have HF := hid hf
  clear hk hm hf
  simp only [Exit.then, Array.replicate_succ, Array.replicate_zero, List.push_toArray, List.append_toArray, List.nil_append, List.cons_append]
  go_wp2
  go_loop [6, 7, 12] (fun _ _ i => ∃ k : Nat, k ≤ 45 ∧ i = .int .i64 k ∧ ∀ j : Nat, j < k → keyS j ≠ n) (fun _ _ i => 45 - (intOf i).toNat)
  case atStart => exact ⟨0, by omega, rfl, fun j h => absurd h (by omega)⟩
  case round =>
    obtain ⟨k, hk, rfl, hno⟩ := hrel
    have Hno := hid hno
    clear hno
    by_cases hlt : k < 45
    · have c1 := HK.out k hlt
      have c2 := HM.out k hlt
      have c3 := HF.out k hlt
      generalize hN : nmI (keyS k) = N at c2
      generalize hF : fmI (keyS k) = F at c3
      generalize hx : keyS k = x at c1
      have Hx := hid hx
      have HN := hid hN
      have Hf := hid hF
      clear hx hN hF
      by_cases he : (x == n) = true
      · go_wp2
        go_quiet (fail)
        go_wp2
        go_ret2
        have e1 : x = n := by simpa using he
        refine ⟨?_, hB.trans ⟨rfl, rfl, rfl, Nat.le_refl _, fun _ _ => rfl⟩⟩
        rw [← e1, ← Hx.out, HN.out, Hf.out]; rfl
      · simp only [Bool.not_eq_true] at he
        go_wp2
        go_round
        case rel =>
          refine ⟨k + 1, by omega, by go_num, fun j hj => ?_⟩
          rcases Nat.lt_or_ge j k with h | h
          · exact Hno.out j h
          · obtain rfl : j = k := by omega
            rw [Hx.out]; simpa using he
        case measure => simp [intOf]; omega
    · obtain rfl : k = 45 := by omega
      go_wp2
      go_ret2
      have e := key_none n hn Hno.out
      exact ⟨by rw [e.1, e.2]; rfl, hB⟩
end Go.Proofs.YtjocifamacpamaaDoor
