/- EraseLabels: the law, walked. Conditions: the sizes that a program may hold; the library's variables. -/
import Derived.Test.YtbgjanmheagilaaGreatDoorLxX
import Derived.Test.YtbgjanmheagilaaGreatDoorFrX
import Derived.Test.YtbgjanmheagilaaGreatDoorAw14X
set_option linter.unusedVariables false
set_option linter.unusedSimpArgs false
namespace Go.Proofs.YtbgjanmheagilaaGreatDoor
open Go Go.RowKit Go.Nodes
set_option linter.unusedVariables false
set_option linter.unusedSimpArgs false
theorem kidsL_len (ns : List Nd) (A : List Int) (l : List Int) : (kidsL ns A l).length ≤ l.length := by
  unfold kidsL; rw [List.length_map]; exact List.length_filter_le _ _
theorem labS_from (ns : List Nd) : ∀ j, ∀ s ∈ (labS ns j).2, (∃ x ∈ ns, s.1 = x.kind ∧ s.2.1 = x.text ∧ s.2.2.2 = x.place ∧ s.2.2.1.length ≤ x.kids.length) ∧ ∀ k ∈ s.2.2.1, 0 ≤ k ∧ k ≤ (j : Int)
  | 0, s, h => by simp [labS] at h
  | j + 1, s, h => by
    have ih := labS_from ns j
    have wk : ∀ s ∈ (labS ns j).2, (∃ x ∈ ns, s.1 = x.kind ∧ s.2.1 = x.text ∧ s.2.2.2 = x.place ∧ s.2.2.1.length ≤ x.kids.length) ∧ ∀ k ∈ s.2.2.1, 0 ≤ k ∧ k ≤ ((j + 1 : Nat) : Int) := fun s h => ⟨(ih s h).1, fun k hk => by have := (ih s h).2 k hk; omega⟩
    cases hx : ns[j]? with
    | none => rw [labS_none hx] at h; exact wk s h
    | some x =>
      by_cases h36 : x.kind = 36
      · rw [labS_36 hx h36] at h; exact wk s h
      · by_cases h2 : x.kind = 2
        · rw [labS_2 hx h2] at h; exact wk s h
        · rw [labS_put hx h36 h2] at h
          rcases List.mem_append.1 h with h | h
          · exact wk s h
          · obtain rfl := List.mem_singleton.1 h
            refine ⟨⟨x, List.mem_of_getElem? hx, rfl, rfl, rfl, kidsL_len _ _ _⟩, fun k hk => ?_⟩
            obtain ⟨y, _, rfl⟩ := List.mem_map.1 hk
            rw [List.getD]
            cases hi : (labS ns j).1[y.toNat]? with
            | none => simp; omega
            | some z => have := labS_in ns j z (List.mem_of_getElem? hi); simp; omega
theorem b_app (w : World) (g h : Gro) : Below (grow w g).heap.size (grow w g) (grow w (g.app h)) := by
  rw [← grow_grow]; exact below_grow _ _
def labX (ns : List Nd) : List Sd := if (checkS ns).2 = 0 then (labS ns ns.length).2 else []
theorem labX_len (ns : List Nd) : (labX ns).length ≤ ns.length := by
  unfold labX; split
  · exact labS_outlen ns _
  · simp
theorem lab_post {w w' : World} {p : Option Addr} {ns : List Nd} (ha : NodesAt w p ns) (hs : Small ns) {e : Ending}
    (h : Below w.heap.size w w' ∧ ∃ v n, e = .returned (.tuple #[v, .int .i64 n]) ∧ n = (checkS ns).2 ∧
      ((n ≠ 0 ∧ v = .slice none 0 0) ∨ (n = 0 ∧ Sound ns ∧ ∃ B os, w.heap.size ≤ B ∧ os.map strip = (labS ns ns.length).2 ∧ w'.ownsRow B 30 4 v os.length (flatN os) ∧ ∀ x ∈ os, Ints B w' (.slice x.kp x.kids.length x.kcap) x.kids))) :
    (∃ pa ca os, e = .returned (.tuple #[.slice pa (labX ns).length ca, .int .i64 (checkS ns).2]) ∧ Hid (NodesAt w' pa os ∧ os.map strip = labX ns)) ∧ Below w.heap.size w w' := by
  obtain ⟨hb, v, n, rfl, rfl, h⟩ := h
  refine ⟨?_, hb⟩
  rcases h with ⟨h0, rfl⟩ | ⟨h0, hsd, B, os, hB, hos, hO, hK⟩
  · have hX : labX ns = [] := by unfold labX; rw [if_neg h0]
    rw [hX]
    exact ⟨none, 0, [], rfl, hid ⟨⟨by simp, by simp, .inl rfl⟩, rfl⟩⟩
  · have hX : labX ns = (labS ns ns.length).2 := by unfold labX; rw [if_pos h0]
    have hlen : (labX ns).length = os.length := by rw [hX, ← hos]; simp
    have hle := labS_outlen ns ns.length
    rw [← hos, List.length_map] at hle
    have hs5 := hs.1
    obtain ⟨pa, ca, rfl, hN⟩ := nodesAt_own hO hK (by unfold maxLen; omega) (fun x hx => by
      obtain ⟨⟨y, hy, e1, e2, e3, e4⟩, e5⟩ := labS_from ns ns.length (strip x) (by rw [← hos]; exact List.mem_map_of_mem hx)
      obtain ⟨f1, f2, f3, f4, f5, f6⟩ := ha.2.1 y hy
      unfold strip at e1 e2 e3 e4 e5
      simp only at e1 e2 e3 e4 e5
      refine ⟨by rw [e1]; exact f1, by rw [e3]; exact f2, by rw [e2]; exact f3, Nat.le_trans e4 f4, fun k hk => ?_⟩
      have := e5 k hk
      exact ⟨by omega, by omega⟩)
    refine ⟨pa, ca, os, ?_, hid ⟨hN, by rw [hX, hos]⟩⟩
    rw [hlen]
set_option maxRecDepth 100000 in
set_option maxHeartbeats 4000000 in
theorem eraseLabels_any (p : Option Addr) (c : Nat) (ns : List Nd) (w : World) (ha : NodesAt w p ns) (hs : Slim ns) (hc : Capped ns) (hl0 : Lib0 w) :
    Calls Tryz.prog 5 #[.slice p ns.length c] w fun e w' => e = .returned (.bool true) ∧ Below w.heap.size w w' := by
  have Haw : Hid (∀ w', Below w.heap.size w w' → Calls Tryz.prog 8 #[] w' fun e w2 => e = .returned (.bool true) ∧ Below w'.heap.size w' w2) := hid fun w' h => awake14 w' (hl0.later h)
  have F1 : Hid (∀ w', Below w.heap.size w w' → Calls Tryz.prog 9 #[.slice p ns.length c] w' fun e w2 => e = .returned (.bool (fewS ns 0)) ∧ Below w'.heap.size w' w2) := hid fun w' h => few_any p c ns w' (NodesAt.later ha h)
  have F2 : Hid (fewS ns 0 = true → ∀ w', Below w.heap.size w w' → Calls Tryz.prog 12 #[.slice p ns.length c] w' fun e w2 => (∃ pa ca os, e = .returned (.tuple #[.slice pa (labX ns).length ca, .int .i64 (checkS ns).2]) ∧ Hid (NodesAt w2 pa os ∧ os.map strip = labX ns)) ∧ Below w'.heap.size w' w2) :=
    hid fun hf w' h => (labels12_any p c ns w' (NodesAt.later ha h) (small_of hs hf) hc (hl0.later h)).mono fun e w2 hp => lab_post (NodesAt.later ha h) (small_of hs hf) hp
  have F3 : Hid (fewS ns 0 = true → ∀ w', Below w.heap.size w w' → Calls Tryz.prog 13 #[.slice p ns.length c] w' fun e w2 => (∃ pa ca os, e = .returned (.tuple #[.slice pa (labX ns).length ca, .int .i64 (checkS ns).2]) ∧ Hid (NodesAt w2 pa os ∧ os.map strip = labX ns)) ∧ Below w'.heap.size w' w2) :=
    hid fun hf w' h => (rlabels_any p c ns w' (NodesAt.later ha h) (small_of hs hf) hc (hl0.later h)).mono fun e w2 hp => lab_post (NodesAt.later ha h) (small_of hs hf) hp
  have F4 : Hid (fewS ns 0 = true → (labX ns).length ≤ 5000) := hid fun hf => Nat.le_trans (labX_len ns) (by have := (small_of hs hf).1; omega)
  have F5 : Hid (fewS ns 0 = true → ∀ w', Below w.heap.size w w' → Calls Tryz.prog 15 #[.slice p ns.length c] w' fun e w2 => e = .returned (.bool (freeS ns)) ∧ Below w'.heap.size w' w2) := hid fun hf w' h => free_any p c ns w' (NodesAt.later ha h) (small_of hs hf) hc (hl0.later h)
  have F6 : Hid (fewS ns 0 = true → ∀ w', Below w.heap.size w w' → Calls Tryz.prog 16 #[.slice p ns.length c] w' fun e w2 => e = .returned (.bool (freeS ns)) ∧ Below w'.heap.size w' w2) := hid fun hf w' h => rfree_any p c ns w' (NodesAt.later ha h) (small_of hs hf) hc (hl0.later h)
  clear ha hs hc hl0
  generalize fewS ns 0 = f at *
  generalize labX ns = X at *
  generalize (checkS ns).2 = n2 at *
  generalize freeS ns = fr at *
  generalize ns.length = L at *
  cases f with
  | false =>
    clear F2 F3 F4 F5 F6
    go_enter Tryz.func5, Tryz.ntmps5
    go_wp2_with (first
      | (go_at_call 8; ((with_reducible refine (Haw.out _ (by repeat (first | exact Below.refl _ _ | refine bG ?_ _ | refine bA ?_ _ | refine bD ?_ | refine bN ?_ _))).mono ?_)); rintro e w' ⟨rfl, hb⟩; obtain ⟨g1, rfl⟩ := bout hb; clear hb)
      | (go_at_call 9; ((with_reducible refine (F1.out _ (by repeat (first | exact Below.refl _ _ | refine bG ?_ _ | refine bA ?_ _ | refine bD ?_ | refine bN ?_ _))).mono ?_)); rintro e w' ⟨rfl, hb⟩; obtain ⟨g2, rfl⟩ := bout hb; clear hb))
    go_ret
    exact ⟨rfl, by repeat (first | exact Below.refl _ _ | refine bG ?_ _ | refine bA ?_ _ | refine bD ?_ | refine bN ?_ _)⟩
  | true =>
    have G2 := hid (F2.out rfl)
    have G3 := hid (F3.out rfl)
    have hX5 := F4.out rfl
    have G5 := hid (F5.out rfl)
    have G6 := hid (F6.out rfl)
    clear F2 F3 F4 F5 F6
    obtain ⟨m, hm⟩ : ∃ m, X.length = m := ⟨_, rfl⟩
    rw [hm] at G2 G3 hX5
    have Hm := hid hm
    have S5 : Hid (∀ (pa pb : Option Addr) (ca cb : Nat) (os os' : List Nd) (W W' W3 : World), NodesAt W pa os ∧ os.map strip = X → NodesAt W' pb os' ∧ os'.map strip = X → Below W.heap.size W W3 → Below W'.heap.size W' W3 →
        Calls Tryz.prog 14 #[.slice pa m ca, .slice pb m cb] W3 fun e w2 => e = .returned (.bool true) ∧ Below W3.heap.size W3 w2) := hid fun pa pb ca cb os os' W W' W3 h1 h2 b1 b2 =>
      same14_any pa pb ca cb m os os' W3 (NodesAt.later h1.1 b1) (NodesAt.later h2.1 b2) (by rw [h1.2, h2.2]) (by rw [← Hm.out, ← h1.2]; simp) (by rw [← Hm.out, ← h2.2]; simp) (by omega)
    clear hm
    have m0 : (m : Int) ≤ 5000 := by omega
    clear hX5
    cases fr
    all_goals
      go_enter Tryz.func5, Tryz.ntmps5
      go_wp2_with (first
        | (go_at_call 8; ((with_reducible refine (Haw.out _ (by repeat (first | exact Below.refl _ _ | refine bG ?_ _ | refine bA ?_ _ | refine bD ?_ | refine bN ?_ _))).mono ?_)); rintro e w' ⟨rfl, hb⟩; obtain ⟨g1, rfl⟩ := bout hb; clear hb)
        | (go_at_call 9; ((with_reducible refine (F1.out _ (by repeat (first | exact Below.refl _ _ | refine bG ?_ _ | refine bA ?_ _ | refine bD ?_ | refine bN ?_ _))).mono ?_)); rintro e w' ⟨rfl, hb⟩; obtain ⟨g2, rfl⟩ := bout hb; clear hb)
        | (go_at_call 12; ((with_reducible refine (G2.out _ (by repeat (first | exact Below.refl _ _ | refine bG ?_ _ | refine bA ?_ _ | refine bD ?_ | refine bN ?_ _))).mono ?_)); rintro e w' ⟨⟨pa, ca, oa, rfl, K1⟩, hb⟩; obtain ⟨g3, rfl⟩ := bout hb; clear hb)
        | (go_at_call 13; ((with_reducible refine (G3.out _ (by repeat (first | exact Below.refl _ _ | refine bG ?_ _ | refine bA ?_ _ | refine bD ?_ | refine bN ?_ _))).mono ?_)); rintro e w' ⟨⟨pb, cb, ob, rfl, K2⟩, hb⟩; obtain ⟨g4, rfl⟩ := bout hb; clear hb)
        | (go_at_call 14; ((with_reducible refine (S5.out _ _ _ _ _ _ _ _ _ K1.out K2.out ?_ ?_).mono ?_); rotate_left 2; rintro e w' ⟨rfl, hb⟩; obtain ⟨g6, rfl⟩ := bout hb; clear hb))
        | (go_at_call 15; ((with_reducible refine (G5.out _ (by repeat (first | exact Below.refl _ _ | refine bG ?_ _ | refine bA ?_ _ | refine bD ?_ | refine bN ?_ _))).mono ?_)); rintro e w' ⟨rfl, hb⟩; obtain ⟨g7, rfl⟩ := bout hb; clear hb)
        | (go_at_call 16; ((with_reducible refine (G6.out _ (by repeat (first | exact Below.refl _ _ | refine bG ?_ _ | refine bA ?_ _ | refine bD ?_ | refine bN ?_ _))).mono ?_)); rintro e w' ⟨rfl, hb⟩; obtain ⟨g8, rfl⟩ := bout hb; clear hb))
      all_goals first
        | (simp only [grow_grow]; first | exact Below.refl _ _ | exact b_app _ _ _)
        | (go_ret; exact ⟨rfl, by repeat (first | exact Below.refl _ _ | refine bG ?_ _ | refine bA ?_ _ | refine bD ?_ | refine bN ?_ _)⟩)
end Go.Proofs.YtbgjanmheagilaaGreatDoor
