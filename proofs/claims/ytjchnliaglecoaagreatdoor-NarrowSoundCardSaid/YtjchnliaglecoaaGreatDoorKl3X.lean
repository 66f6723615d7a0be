/- types.Check's look, walked: what is flat. Conditions: none. -/
import Derived.StillTailTactics
import Derived.OneCell
import Derived.Test.YtjchnliaglecoaaGreatDoorTk5X
set_option linter.unusedVariables false
set_option linter.unusedSimpArgs false
namespace Go.Proofs.YtjchnliaglecoaaGreatDoor
open Go Go.RowKit Go.Nodes
set_option linter.unusedVariables false
set_option linter.unusedSimpArgs false
theorem setCell_two (w : World) (b : Nat) (x y : Value) : (w.setCell ⟨b, 0, none⟩ x).setCell ⟨b, 0, none⟩ y = w.setCell ⟨b, 0, none⟩ y := by
  unfold World.setCell
  congr 1
  apply Array.ext
  · simp
  · intro i h1 h2
    simp only [Array.getElem_modify]
    by_cases e : b = i
    · simp only [e, if_true]
      generalize w.heap[i]'(by simpa using h2) = o
      cases o <;> simp
    · simp [e]
theorem must132 (x : Int) (w : World) : Calls Tryz.prog 132 #[.bool true, .int .i64 x] w fun e w' => e = .returned (.tuple #[]) ∧ w' = w := by
  go_enter Tryz.func132, Tryz.ntmps132
  go_wp2
  go_end0
  exact ⟨rfl, rfl⟩
theorem mustB (b : Bool) (hb : b = true) (x : Int) (w : World) : Calls Tryz.prog 132 #[.bool b, .int .i64 x] w fun e w' => e = .returned (.tuple #[]) ∧ w' = w := by
  subst hb; exact must132 x w
/-- The world within look: so many were counted, and the type's own box. -/
def Xw (W : World) (BM : Nat) (c : Int) (box : Array Value) : World := (W.setCell ⟨BM, 0, none⟩ (.int .i64 c)).alloc (.cells box 39)
def LookPost (W : World) (BM : Nat) (r : Int) (e : Ending) (w' : World) : Prop := e = .returned (.tuple #[]) ∧ ∃ G, w' = grow (W.setCell ⟨BM, 0, none⟩ (.int .i64 r)) G
theorem look_fold {W V : World} {BM : Nat} {c r : Int} {box : Array Value} (hB : BM < W.heap.size) (hV : Below (Xw W BM c box).heap.size (Xw W BM c box) V) (G : Gro) : ∃ G', grow (V.setCell ⟨BM, 0, none⟩ (.int .i64 r)) G = grow (Xw W BM r box) G' := by
  obtain ⟨G1, rfl⟩ := bout hV
  refine ⟨G1.app G, ?_⟩
  rw [setCell_grow _ _ _ _ _ (by unfold Xw; simp; omega)]
  unfold Xw
  rw [World.setCell_alloc_past _ _ _ _ (by simp; exact hB), setCell_two, grow_grow]
theorem look_step {W W0 : World} {BM f : Nat} {d m : Int} {qs : List Sk} {box : Array Value} (hM : W.heap[BM]? = some (.cells #[.int .i64 m] 3 (0, 0))) (hK : W.heap[BM + 1]? = some (.cells #[.func (.func 131) #[] #[.pointer (some ⟨BM, 0, none⟩), .pointer (some ⟨BM + 1, 0, none⟩)]] 166 (0, 0))) (hW0 : W0.heap.size ≤ BM) (hb0 : Below W0.heap.size W0 W)
    (Hc : Hid (∀ (i : Nat) (hi : i < qs.length) (va : List Value) (c c' : Int), TyAt W0 f va qs[i] → chk f qs[i] (d + 1) c = some c' → c' ≤ 10000 → 0 ≤ c → ∀ V, Below W0.heap.size W0 V → V.heap[BM]? = some (.cells #[.int .i64 c] 3 (0, 0)) →
      V.heap[BM + 1]? = some (.cells #[.func (.func 131) #[] #[.pointer (some ⟨BM, 0, none⟩), .pointer (some ⟨BM + 1, 0, none⟩)]] 166 (0, 0)) → Calls Tryz.prog 131 #[.agg va.toArray, .int .i64 (d + 1), .pointer (some ⟨BM, 0, none⟩), .pointer (some ⟨BM + 1, 0, none⟩)] V (LookPost V BM c')))
    {i : Nat} (hi : i < qs.length) {va : List Value} (hT : TyAt W0 f va qs[i]) {c c' : Int} (h1 : chk f qs[i] (d + 1) c = some c') (h2 : c' ≤ 10000) (h3 : 0 ≤ c) :
    Hid (∀ V, Below (Xw W BM c box).heap.size (Xw W BM c box) V → Calls Tryz.prog 131 #[.agg va.toArray, .int .i64 (d + 1), .pointer (some ⟨BM, 0, none⟩), .pointer (some ⟨BM + 1, 0, none⟩)] V fun e w' => e = .returned (.tuple #[]) ∧ ∃ G, w' = grow ((W.setCell ⟨BM, 0, none⟩ (.int .i64 c')).alloc (.cells box 39)) G) := by
  refine hid fun V hV => ?_
  have hBM : BM < W.heap.size := (Array.getElem?_eq_some_iff.1 hM).1
  have hBK : BM + 1 < W.heap.size := (Array.getElem?_eq_some_iff.1 hK).1
  have hs1 : (W.setCell ⟨BM, 0, none⟩ (.int .i64 c)).heap.size = W.heap.size := by simp
  have hbX : Below W0.heap.size W0 (Xw W BM c box) := by
    unfold Xw
    exact (hb0.setCell (p := ⟨BM, 0, none⟩) hW0 _).alloc (by rw [hs1]; exact hb0.size) _
  have hsX : W.heap.size < (Xw W BM c box).heap.size := by unfold Xw; simp
  have hMX : (Xw W BM c box).heap[BM]? = some (.cells #[.int .i64 c] 3 (0, 0)) := by
    unfold Xw
    rw [Below.heap_alloc _ _ _ (by rw [hs1]; exact hBM)]
    exact one_setCell hM
  have hKX : (Xw W BM c box).heap[BM + 1]? = some (.cells #[.func (.func 131) #[] #[.pointer (some ⟨BM, 0, none⟩), .pointer (some ⟨BM + 1, 0, none⟩)]] 166 (0, 0)) := by
    unfold Xw
    rw [Below.heap_alloc _ _ _ (by rw [hs1]; exact hBK), Below.heap_setCell _ _ _ _ (by simp)]
    exact hK
  refine (Hc.out i hi va c c' hT h1 h2 h3 V (hbX.trans (hV.mono hbX.size)) ((hV.block _ (by omega)).trans hMX) ((hV.block _ (by omega)).trans hKX)).mono ?_
  rintro e w' ⟨rfl, G, rfl⟩
  obtain ⟨G', hG⟩ := look_fold (r := c') hBM hV G
  exact ⟨rfl, G', hG⟩
set_option maxRecDepth 100000 in
set_option maxHeartbeats 4000000 in
theorem lk_flat (W : World) (BM : Nat) (k d m r : Int) (np ap : Option Addr) (u nc v ac : Nat) (d0 : 0 ≤ d) (hd' : d ≤ 50) (m0 : 0 ≤ m) (hm' : m + 1 ≤ 10000) (p1 : (u : Int) ≤ 9223372036854775807) (p2 : (v : Int) ≤ 9223372036854775807)
    (hM : W.heap[BM]? = some (.cells #[.int .i64 m] 3 (0, 0))) (hK : W.heap[BM + 1]? = some (.cells #[.func (.func 131) #[] #[.pointer (some ⟨BM, 0, none⟩), .pointer (some ⟨BM + 1, 0, none⟩)]] 166 (0, 0)))
    (hk6 : 0 ≤ k ∧ k ≤ 6) (hu : u = 0) (hv : v = 0) (hr : r = m + 1) : Calls Tryz.prog 131 #[.agg #[.int .i64 k, .slice np u nc, .slice ap v ac], .int .i64 d, .pointer (some ⟨BM, 0, none⟩), .pointer (some ⟨BM + 1, 0, none⟩)] W (LookPost W BM r) := by
  have hBM : BM < W.heap.size := (Array.getElem?_eq_some_iff.1 hM).1
  have hBK : BM + 1 < W.heap.size := (Array.getElem?_eq_some_iff.1 hK).1
  have cM : W.cell? ⟨BM, 0, none⟩ = some (.int .i64 m) := by simp [World.cell?, hM]
  have fM : W.frozen? ⟨BM, 0, none⟩ = false := by simp [World.frozen?, hM]
  have cK : W.cell? ⟨BM + 1, 0, none⟩ = some (.func (.func 131) #[] #[.pointer (some ⟨BM, 0, none⟩), .pointer (some ⟨BM + 1, 0, none⟩)]) := by simp [World.cell?, hK]
  have hne1 : ¬ BM + 1 = BM := by omega
  have hne2 : ¬ W.heap.size = BM := by omega
  subst hu hv hr
  have hks : k = 0 ∨ k = 1 ∨ k = 2 ∨ k = 3 ∨ k = 4 ∨ k = 5 ∨ k = 6 := by omega
  clear hk6 hM hK
  rcases hks with rfl | rfl | rfl | rfl | rfl | rfl | rfl
  all_goals
    go_enter Tryz.func131, Tryz.ntmps131
    go_wp2_with (go_at_call 132; refine (mustB _ (by first | rfl | assumption | (simp only [decide_eq_true_eq, Bool.and_eq_true]; omega) | (simp; omega)) _ _).mono ?_; rintro e w' ⟨rfl, rfl⟩)
    go_loopw [76] (fun iv wr => iv = .int .i64 0 ∧ ∃ G, wr = grow (W.setCell ⟨BM, 0, none⟩ (.int .i64 (m + 1))) G) (fun iv _ => 0)
    case atStart => exact ⟨rfl, bout (bA (Below.refl _ _) _)⟩
    case round =>
      obtain ⟨rfl, G, rfl⟩ := hrel
      go_wp2
      go_end0
      exact ⟨rfl, G, rfl⟩
end Go.Proofs.YtjchnliaglecoaaGreatDoor

/- types.Check's look, walked: functions. Conditions: none. -/
namespace Go.Proofs.YtjchnliaglecoaaGreatDoor
open Go Go.RowKit Go.Nodes
set_option linter.unusedVariables false
set_option linter.unusedSimpArgs false
set_option maxRecDepth 100000 in
set_option maxHeartbeats 4000000 in
theorem lk_func (W : World) (BM : Nat) (k d m r : Int) (np ap : Option Addr) (u nc v ac : Nat) (d0 : 0 ≤ d) (hd' : d ≤ 50) (m0 : 0 ≤ m) (hm' : m + 1 ≤ 10000) (p1 : (u : Int) ≤ 9223372036854775807) (p2 : (v : Int) ≤ 9223372036854775807)
    (hM : W.heap[BM]? = some (.cells #[.int .i64 m] 3 (0, 0))) (hK : W.heap[BM + 1]? = some (.cells #[.func (.func 131) #[] #[.pointer (some ⟨BM, 0, none⟩), .pointer (some ⟨BM + 1, 0, none⟩)]] 166 (0, 0)))
    (W0 : World) (f : Nat) (ns : List ByteArray) (qs : List Sk) (hW0 : W0.heap.size ≤ BM) (hb0 : Below W0.heap.size W0 W) (Hn : Hid (RowOf W0 1 textE np ns)) (Ha : Hid (RowOf W0 3 (TyAt W0 f) ap qs)) (Hu : Hid (u = ns.length)) (Hv : Hid (v = qs.length)) (hr : r ≤ 10000)
    (Hc : Hid (∀ (i : Nat) (hi : i < qs.length) (va : List Value) (c c' : Int), TyAt W0 f va qs[i] → chk f qs[i] (d + 1) c = some c' → c' ≤ 10000 → 0 ≤ c → ∀ V, Below W0.heap.size W0 V → V.heap[BM]? = some (.cells #[.int .i64 c] 3 (0, 0)) →
      V.heap[BM + 1]? = some (.cells #[.func (.func 131) #[] #[.pointer (some ⟨BM, 0, none⟩), .pointer (some ⟨BM + 1, 0, none⟩)]] 166 (0, 0)) → Calls Tryz.prog 131 #[.agg va.toArray, .int .i64 (d + 1), .pointer (some ⟨BM, 0, none⟩), .pointer (some ⟨BM + 1, 0, none⟩)] V (LookPost V BM c')))
    (hk : k = 9) (hu : u = 0) (hR : chkL (fun T m => chk f T (d + 1) m) qs (m + 1) = some r) (hv0 : v ≠ 0) : Calls Tryz.prog 131 #[.agg #[.int .i64 k, .slice np u nc, .slice ap v ac], .int .i64 d, .pointer (some ⟨BM, 0, none⟩), .pointer (some ⟨BM + 1, 0, none⟩)] W (LookPost W BM r) := by
  have hBM : BM < W.heap.size := (Array.getElem?_eq_some_iff.1 hM).1
  have hBK : BM + 1 < W.heap.size := (Array.getElem?_eq_some_iff.1 hK).1
  have cM : W.cell? ⟨BM, 0, none⟩ = some (.int .i64 m) := by simp [World.cell?, hM]
  have fM : W.frozen? ⟨BM, 0, none⟩ = false := by simp [World.frozen?, hM]
  have cK : W.cell? ⟨BM + 1, 0, none⟩ = some (.func (.func 131) #[] #[.pointer (some ⟨BM, 0, none⟩), .pointer (some ⟨BM + 1, 0, none⟩)]) := by simp [World.cell?, hK]
  have hne1 : ¬ BM + 1 = BM := by omega
  have hne2 : ¬ W.heap.size = BM := by omega
  subst hk hu
  have HM := hid hM
  have HK := hid hK
  have HB0 := hid hb0
  have HR0 := hid hR
  have hv1 : (0 : Int) < (v : Int) := by omega
  have hv2 : decide ((0 : Int) < (v : Int)) = true := decide_eq_true hv1
  clear hM hK hb0 hR hv0
  go_enter Tryz.func131, Tryz.ntmps131
  go_wp2_with (go_at_call 132; refine (mustB _ (by first | rfl | assumption | (simp only [decide_eq_true_eq, Bool.and_eq_true]; omega) | (simp; omega)) _ _).mono ?_; rintro e w' ⟨rfl, rfl⟩)
  go_loopw [76] (fun iv wr => ∃ (i : Nat) (c : Int) (G : Gro), i ≤ v ∧ iv = .int .i64 i ∧ wr = grow ((W.setCell ⟨BM, 0, none⟩ (.int .i64 c)).alloc (.cells #[.int .i64 9, .slice np 0 nc, .slice ap v ac] 39)) G ∧ Hid (chkL (fun T m => chk f T (d + 1) m) (qs.drop i) c = some r) ∧ 0 ≤ c ∧ c ≤ 10000) (fun iv _ => v - (intOf iv).toNat)
  case atStart => exact ⟨0, m + 1, _, Nat.zero_le _, rfl, below_grow2 (Below.refl _ _), hid (HR0.out), by omega, hm'⟩
  case round =>
      obtain ⟨i, c, G, hi, rfl, rfl, hI, hc0, hc1⟩ := hrel
      by_cases hin : i < v
      · have hix : i < qs.length := by have := Hv.out; omega
        have i0 : (0 : Int) ≤ (i : Int) := by omega
        have i1 : (i : Int) < (v : Int) := by omega
        obtain ⟨b1, o1, k2, np2, nn2, nc2, ap2, an2, ac2, rfl, hb1, c0', c1', c2', hT⟩ := ty_cells Ha.out hix
        have c0 := cell_later HB0.out c0'
        have c1 := cell_later HB0.out c1'
        have c2 := cell_later HB0.out c2'
        have hb1W : b1 < W.heap.size := Nat.lt_of_lt_of_le hb1 HB0.out.size
        have hne3 : ¬ b1 = BM := by omega
        have Hd := chkL_drop (fun T m => chk f T (d + 1) m) qs i hix c
        rw [hI.out] at Hd
        obtain ⟨c', hq⟩ : ∃ c', chk f qs[i] (d + 1) c = some c' := by
          cases hq : chk f qs[i] (d + 1) c with
          | none => rw [hq] at Hd; cases Hd
          | some c' => exact ⟨c', rfl⟩
        rw [hq] at Hd
        have hle := chk_le f _ _ _ _ hq
        have hqr : c' ≤ 10000 := by
          have := (chkL_le (B := 10006) (fun T m r h => chk_le f T (d + 1) m r h) _ _ _ hle.2 Hd.symm).1
          omega
        have HD := hid Hd
        clear Hd
        have HS := look_step (W := W) (box := #[.int .i64 9, .slice (np) 0 nc, .slice (some ⟨b1, o1, none⟩) v ac]) HM.out HK.out hW0 HB0.out Hc hix hT hq hqr hc0
        unfold Xw at HS
        clear c0' c1' c2' hT hq hI hi
        go_wp2_with (go_at_call 131; refine (HS.out _ (by repeat (first | exact Below.refl _ _ | refine bN ?_ _ | refine bD ?_ | refine bG ?_ _ | refine bI ?_ _ _ | refine bA ?_ _))).mono ?_; rintro e w' ⟨rfl, G3, rfl⟩)
        go_roundw
        case rel => exact ⟨i + 1, c', _, by omega, by go_num, rfl, hid HD.out.symm, by omega, by omega⟩
        case measure => simp [intOf]; omega
      · obtain rfl : i = v := by omega
        have hfin : c = r := by
          have := hI.out
          rw [List.drop_of_length_le (by have := Hv.out; omega)] at this
          exact Option.some.inj this
        subst hfin
        clear hI hi hin
        go_wp2
        go_end0
        exact ⟨rfl, bout (by repeat (first | exact Below.refl _ _ | refine bN ?_ _ | refine bD ?_ | refine bG ?_ _ | refine bI ?_ _ _ | refine bA ?_ _))⟩
end Go.Proofs.YtjchnliaglecoaaGreatDoor

/- What can be read in the world within look. Conditions: none. -/
namespace Go.Proofs.YtjchnliaglecoaaGreatDoor
open Go Go.RowKit Go.Nodes
set_option linter.unusedVariables false
set_option linter.unusedSimpArgs false
theorem cell_alloc_new (w : World) (cs : Array Value) (t : TypeId) (j : Nat) : (w.alloc (.cells cs t)).cell? ⟨w.heap.size, j, none⟩ = cs[j]? := by
  simp only [World.cell?, heap_alloc_new]; rfl
theorem cell_alloc_old (w : World) (o : Obj) (b j : Nat) (h : b < w.heap.size) : (w.alloc o).cell? ⟨b, j, none⟩ = w.cell? ⟨b, j, none⟩ := by
  simp only [World.cell?, Below.heap_alloc _ _ _ h]
theorem cell_grow_old (w : World) (g : Gro) (b j : Nat) (h : b < w.heap.size) : (grow w g).cell? ⟨b, j, none⟩ = w.cell? ⟨b, j, none⟩ := by
  simp only [World.cell?, (below_grow w g).block b h]
theorem cell_set_other (w : World) (B : Nat) (x : Value) (b j : Nat) (h : b ≠ B) : (w.setCell ⟨B, 0, none⟩ x).cell? ⟨b, j, none⟩ = w.cell? ⟨b, j, none⟩ := by
  simp only [World.cell?, Below.heap_setCell w ⟨B, 0, none⟩ x b h]
/-- The world within look, with one argument's box. -/
def Vw (W : World) (BM : Nat) (c : Int) (box : Array Value) (G : Gro) (boxa : Array Value) : World := (grow (Xw W BM c box) G).alloc (.cells boxa 39)
section
variable {W V : World} {BM : Nat} {c : Int} {box boxa : Array Value} {G : Gro}
theorem vw_size (h : Vw W BM c box G boxa = V) : V.heap.size = W.heap.size + 1 + G.size + 1 := by
  rw [← h]; unfold Vw Xw; simp
theorem vw_below (h : Vw W BM c box G boxa = V) : Below (Xw W BM c box).heap.size (Xw W BM c box) V := by
  rw [← h]; unfold Vw; exact bA (bG (Below.refl _ _) _) _
theorem xw_size : (Xw W BM c box).heap.size = W.heap.size + 1 := by unfold Xw; simp
theorem vw_box (h : Vw W BM c box G boxa = V) (j : Nat) : V.cell? ⟨W.heap.size, j, none⟩ = box[j]? := by
  rw [← h]; unfold Vw
  rw [cell_alloc_old _ _ _ _ (by have := (below_grow (Xw W BM c box) G).size; have := xw_size (W := W) (BM := BM) (c := c) (box := box); omega), cell_grow_old _ _ _ _ (by rw [xw_size]; omega)]
  unfold Xw
  have hs : (W.setCell ⟨BM, 0, none⟩ (.int .i64 c)).heap.size = W.heap.size := by simp
  have := cell_alloc_new (W.setCell ⟨BM, 0, none⟩ (.int .i64 c)) box 39 j
  rwa [hs] at this
theorem vw_arg (h : Vw W BM c box G boxa = V) (j : Nat) : V.cell? ⟨W.heap.size + 1 + G.size, j, none⟩ = boxa[j]? := by
  rw [← h]; unfold Vw
  have hs : (grow (Xw W BM c box) G).heap.size = W.heap.size + 1 + G.size := by simp [Xw]
  have := cell_alloc_new (grow (Xw W BM c box) G) boxa 39 j
  rwa [hs] at this
theorem vw_old (h : Vw W BM c box G boxa = V) {b : Nat} (j : Nat) (hb : b < W.heap.size) (hne : b ≠ BM) : V.cell? ⟨b, j, none⟩ = W.cell? ⟨b, j, none⟩ := by
  rw [← h]; unfold Vw
  rw [cell_alloc_old _ _ _ _ (by have := (below_grow (Xw W BM c box) G).size; have := xw_size (W := W) (BM := BM) (c := c) (box := box); omega), cell_grow_old _ _ _ _ (by rw [xw_size]; omega)]
  unfold Xw
  rw [cell_alloc_old _ _ _ _ (by simp; exact hb), cell_set_other _ _ _ _ _ hne]
end
end Go.Proofs.YtjchnliaglecoaaGreatDoor

/- types.Check's look, walked: unions. Conditions: none. -/
namespace Go.Proofs.YtjchnliaglecoaaGreatDoor
open Go Go.RowKit Go.Nodes
set_option linter.unusedVariables false
set_option linter.unusedSimpArgs false
theorem leaf_chk {W : World} {f : Nat} {k : Int} {np ap : Option Addr} {nn nc an ac : Nat} {T : Sk} {d c : Int} (hT : TyAt W f [.int .i64 k, .slice np nn nc, .slice ap an ac] T) (hk : 0 ≤ k) (hk6 : k ≤ 6) (hn : nn = 0) (ha : an = 0) (hd : d ≤ 50) (hc : c + 1 ≤ 10000) : chk f T d c = some (c + 1) := by
  cases f with
  | zero => exact hT.elim
  | succ f =>
    obtain ⟨k', ns, qs⟩ := T
    obtain ⟨t1, t2, t3⟩ := ty_kind hT
    simp only [skK, skN, skA] at t1 t2 t3
    unfold chk
    rw [if_neg (by omega), if_pos (by omega), if_pos (by omega)]
set_option maxRecDepth 100000 in
set_option maxHeartbeats 4000000 in
theorem lk_union (W : World) (BM : Nat) (k d m r : Int) (np ap : Option Addr) (u nc v ac : Nat) (d0 : 0 ≤ d) (hd' : d ≤ 50) (m0 : 0 ≤ m) (hm' : m + 1 ≤ 10000) (p1 : (u : Int) ≤ 9223372036854775807) (p2 : (v : Int) ≤ 9223372036854775807)
    (hM : W.heap[BM]? = some (.cells #[.int .i64 m] 3 (0, 0))) (hK : W.heap[BM + 1]? = some (.cells #[.func (.func 131) #[] #[.pointer (some ⟨BM, 0, none⟩), .pointer (some ⟨BM + 1, 0, none⟩)]] 166 (0, 0)))
    (W0 : World) (f : Nat) (ns : List ByteArray) (qs : List Sk) (hW0 : W0.heap.size ≤ BM) (hb0 : Below W0.heap.size W0 W) (Hn : Hid (RowOf W0 1 textE np ns)) (Ha : Hid (RowOf W0 3 (TyAt W0 f) ap qs)) (Hu : Hid (u = ns.length)) (Hv : Hid (v = qs.length)) (hr : r ≤ 10000)
    (Hc : Hid (∀ (i : Nat) (hi : i < qs.length) (va : List Value) (c c' : Int), TyAt W0 f va qs[i] → chk f qs[i] (d + 1) c = some c' → c' ≤ 10000 → 0 ≤ c → ∀ V, Below W0.heap.size W0 V → V.heap[BM]? = some (.cells #[.int .i64 c] 3 (0, 0)) →
      V.heap[BM + 1]? = some (.cells #[.func (.func 131) #[] #[.pointer (some ⟨BM, 0, none⟩), .pointer (some ⟨BM + 1, 0, none⟩)]] 166 (0, 0)) → Calls Tryz.prog 131 #[.agg va.toArray, .int .i64 (d + 1), .pointer (some ⟨BM, 0, none⟩), .pointer (some ⟨BM + 1, 0, none⟩)] V (LookPost V BM c')))
    (hk : k = 7) (hu : u = 0) (hU : unionB d qs = true) (hv2 : 2 ≤ v) (hrv : r = m + 1 + v) : Calls Tryz.prog 131 #[.agg #[.int .i64 k, .slice np u nc, .slice ap v ac], .int .i64 d, .pointer (some ⟨BM, 0, none⟩), .pointer (some ⟨BM + 1, 0, none⟩)] W (LookPost W BM r) := by
  have hBM : BM < W.heap.size := (Array.getElem?_eq_some_iff.1 hM).1
  have hBK : BM + 1 < W.heap.size := (Array.getElem?_eq_some_iff.1 hK).1
  have cM : W.cell? ⟨BM, 0, none⟩ = some (.int .i64 m) := by simp [World.cell?, hM]
  have fM : W.frozen? ⟨BM, 0, none⟩ = false := by simp [World.frozen?, hM]
  have cK : W.cell? ⟨BM + 1, 0, none⟩ = some (.func (.func 131) #[] #[.pointer (some ⟨BM, 0, none⟩), .pointer (some ⟨BM + 1, 0, none⟩)]) := by simp [World.cell?, hK]
  have hne1 : ¬ BM + 1 = BM := by omega
  have hne2 : ¬ W.heap.size = BM := by omega
  subst hk hu
  have HM := hid hM
  have HK := hid hK
  have HB0 := hid hb0
  have HU : Hid (∀ j, j < qs.length → unionAt d qs j = true) := hid fun j hj => by
    unfold unionB at hU
    rw [List.all_eq_true] at hU
    exact hU j (List.mem_range.2 hj)
  have hv1 : (1 : Int) < (v : Int) := by omega
  have hrr : m + 1 + (v : Int) ≤ 10000 := by omega
  have Hr := hid hrv
  clear hM hK hb0 hU hv2 hrv hr
  go_enter Tryz.func131, Tryz.ntmps131
  go_wp2_with (go_at_call 132; refine (mustB _ (by first | rfl | assumption | (simp only [decide_eq_true_eq, Bool.and_eq_true]; omega) | (simp; omega)) _ _).mono ?_; rintro e w' ⟨rfl, rfl⟩)
  go_loopw [76] (fun iv wr => ∃ (i : Nat) (c : Int) (G : Gro), i ≤ v ∧ iv = .int .i64 i ∧ wr = grow ((W.setCell ⟨BM, 0, none⟩ (.int .i64 c)).alloc (.cells #[.int .i64 7, .slice np 0 nc, .slice ap v ac] 39)) G ∧ Hid (c = m + 1 + i) ∧ 0 ≤ c ∧ c ≤ 10000) (fun iv _ => v - (intOf iv).toNat)
  case atStart => exact ⟨0, m + 1, _, Nat.zero_le _, rfl, below_grow2 (Below.refl _ _), hid (by simp), by omega, hm'⟩
  case round =>
      obtain ⟨i, c, G, hi, rfl, rfl, hI, hc0, hc1⟩ := hrel
      by_cases hin : i < v
      · have hix : i < qs.length := by have := Hv.out; omega
        have i0 : (0 : Int) ≤ (i : Int) := by omega
        have i1 : (i : Int) < (v : Int) := by omega
        obtain ⟨b1, o1, k2, np2, nn2, nc2, ap2, an2, ac2, rfl, hb1, c0', c1', c2', hT⟩ := ty_cells Ha.out hix
        have c0 := cell_later HB0.out c0'
        have c1 := cell_later HB0.out c1'
        have c2 := cell_later HB0.out c2'
        have hb1W : b1 < W.heap.size := Nat.lt_of_lt_of_le hb1 HB0.out.size
        have hne3 : ¬ b1 = BM := by omega
        have hU := HU.out i hix
        have hle := (lastK_ge (d := d) (qs := qs) (i := i) (fun j hj => HU.out j (by omega))).1
        obtain ⟨t1, t2, t3⟩ := ty_kind hT
        obtain ⟨lk, hlk⟩ : ∃ lk, lastK qs i = lk := ⟨_, rfl⟩
        unfold unionAt at hU
        rw [argAt_of hix, t1, t2, t3, hlk] at hU
        rw [hlk] at hle
        simp only [Bool.and_eq_true, decide_eq_true_eq] at hU
        obtain ⟨⟨⟨⟨q1, q2⟩, q3⟩, q4⟩, q5⟩ := hU
        have hcI : c = m + 1 + i := hI.out
        have hq : chk f qs[i] (d + 1) c = some (c + 1) := leaf_chk hT (by omega) q3 q4 q5 (by omega) (by omega)
        have hqr : c + 1 ≤ 10000 := by omega
        have Hlk := hid hlk
        have Ht1 := hid t1
        subst q4 q5
        have k20 : (0 : Int) < k2 := by omega
        have k27 : k2 < 7 := by omega
        have HcI := hid hcI
        clear t1 t2 t3 hlk q3 hcI
        have HS := look_step (W := W) (box := #[.int .i64 7, .slice (np) 0 nc, .slice (some ⟨b1, o1, none⟩) v ac]) HM.out HK.out hW0 HB0.out Hc hix hT hq hqr hc0
        unfold Xw at HS
        clear c0' c1' c2' hT hq hI hi
        rcases Nat.eq_zero_or_pos i with hz0 | hpos
        · have hz1 : ((i : Int) == 0) = true := by simp [hz0]
          have Hz := hid hz0
          clear hz0 hle q2
          go_wp2
          obtain ⟨V, hV⟩ : ∃ V, Vw W BM c #[.int .i64 7, .slice np 0 nc, .slice (some ⟨b1, o1, none⟩) v ac] G #[.int .i64 k2, .slice np2 0 nc2, .slice ap2 0 ac2] = V := ⟨_, rfl⟩
          have HbV := hid (vw_below hV)
          have hsV := vw_size hV
          have v0 : V.cell? ⟨W.heap.size, 2, none⟩ = some (.slice (some ⟨b1, o1, none⟩) v ac) := vw_box hV 2
          have v1 : V.cell? ⟨W.heap.size + 1 + G.size, 0, none⟩ = some (.int .i64 k2) := vw_arg hV 0
          have v2 : V.cell? ⟨W.heap.size + 1 + G.size, 1, none⟩ = some (.slice np2 0 nc2) := vw_arg hV 1
          have v3 : V.cell? ⟨W.heap.size + 1 + G.size, 2, none⟩ = some (.slice ap2 0 ac2) := vw_arg hV 2
          have v4 : V.cell? ⟨BM + 1, 0, none⟩ = some (.func (.func 131) #[] #[.pointer (some ⟨BM, 0, none⟩), .pointer (some ⟨BM + 1, 0, none⟩)]) := (vw_old hV 0 hBK (by omega)).trans cK
          unfold Vw Xw at hV
          unfold Xw at HbV
          rw [hV]
          have lV1 : W.heap.size < V.heap.size := by omega
          have lV2 : W.heap.size + 1 + G.size < V.heap.size := by omega
          have lV3 : BM + 1 < V.heap.size := by omega
          clear hV hsV c0 c1 c2 cM fM cK
          go_quiet ((go_at_call 132; refine (mustB _ (by first | rfl | assumption | (simp only [decide_eq_true_eq, Bool.and_eq_true]; omega) | (simp; omega)) _ _).mono ?_; rintro e w' ⟨he, hm⟩; exact ⟨he, _, hm⟩))
          go_wp2_with (first | (go_at_call 132; refine (mustB _ (by first | rfl | assumption | (simp only [decide_eq_true_eq, Bool.and_eq_true]; omega) | (simp; omega)) _ _).mono ?_; rintro e w' ⟨rfl, rfl⟩) | (go_at_call 131; refine (HS.out _ (_root_.Go.below_drewN HbV.out _)).mono ?_; rintro e w' ⟨rfl, G3, rfl⟩))
          go_roundw
          case rel => exact ⟨i + 1, c + 1, _, by omega, by go_num, rfl, hid (by have := HcI.out; omega), by omega, by omega⟩
          case measure => simp [intOf]; omega
        · have hz1 : ((i : Int) == 0) = false := by simp; omega
          have hpx : i - 1 < qs.length := by omega
          obtain ⟨b1', o1', k1, np1, nn1, nc1, ap1, an1, ac1, hbe, hb1', d0', d1', d2', hT1⟩ := ty_cells Ha.out hpx
          cases hbe
          obtain ⟨s1, s2, s3⟩ := ty_kind hT1
          clear s2 s3
          have hk1 : k1 = lk := by rw [← Hlk.out]; unfold lastK; rw [if_neg (by omega), argAt_of hpx, s1]
          obtain ⟨j, rfl⟩ : ∃ j, i = j + 1 := ⟨i - 1, by omega⟩
          have e0 := cell_later HB0.out d0'
          simp only [Nat.add_sub_cancel] at e0
          have j0 : (0 : Int) ≤ (j : Int) := by omega
          have j1 : (j : Int) < (v : Int) := by omega
          have jj : (((j + 1 : Nat) : Int) - 1) = (j : Int) := by omega
          have jz : ¬ ((j : Int) + 1 = 0) := by omega
          have jz2 : (((j : Int) + 1) == 0) = false := by simp; omega
          have hkk : k1 < k2 := by omega
          clear d0' d1' d2' hT1 s1 hk1 hle q2 hpos hpx hb1'
          go_wp2
          obtain ⟨V, hV⟩ : ∃ V, Vw W BM c #[.int .i64 7, .slice np 0 nc, .slice (some ⟨b1, o1, none⟩) v ac] G #[.int .i64 k2, .slice np2 0 nc2, .slice ap2 0 ac2] = V := ⟨_, rfl⟩
          have HbV := hid (vw_below hV)
          have hsV := vw_size hV
          have v0 : V.cell? ⟨W.heap.size, 2, none⟩ = some (.slice (some ⟨b1, o1, none⟩) v ac) := vw_box hV 2
          have v1 : V.cell? ⟨W.heap.size + 1 + G.size, 0, none⟩ = some (.int .i64 k2) := vw_arg hV 0
          have v2 : V.cell? ⟨W.heap.size + 1 + G.size, 1, none⟩ = some (.slice np2 0 nc2) := vw_arg hV 1
          have v3 : V.cell? ⟨W.heap.size + 1 + G.size, 2, none⟩ = some (.slice ap2 0 ac2) := vw_arg hV 2
          have v4 : V.cell? ⟨BM + 1, 0, none⟩ = some (.func (.func 131) #[] #[.pointer (some ⟨BM, 0, none⟩), .pointer (some ⟨BM + 1, 0, none⟩)]) := (vw_old hV 0 hBK (by omega)).trans cK
          have v5 : V.cell? ⟨b1, o1 + j * 3, none⟩ = some (.int .i64 k1) := (vw_old hV _ hb1W (by omega)).trans e0
          have hb1V : b1 < V.heap.size := by omega
          clear e0
          unfold Vw Xw at hV
          unfold Xw at HbV
          rw [hV]
          have lV1 : W.heap.size < V.heap.size := by omega
          have lV2 : W.heap.size + 1 + G.size < V.heap.size := by omega
          have lV3 : BM + 1 < V.heap.size := by omega
          clear hV hsV c0 c1 c2 cM fM cK
          go_quiet ((go_at_call 132; refine (mustB _ (by first | rfl | assumption | (simp only [decide_eq_true_eq, Bool.and_eq_true]; omega) | (simp; omega)) _ _).mono ?_; rintro e w' ⟨he, hm⟩; exact ⟨he, _, hm⟩))
          go_wp2_with (first | (go_at_call 132; refine (mustB _ (by first | rfl | assumption | (simp only [decide_eq_true_eq, Bool.and_eq_true]; omega) | (simp; omega)) _ _).mono ?_; rintro e w' ⟨rfl, rfl⟩) | (go_at_call 131; refine (HS.out _ (_root_.Go.below_drewN HbV.out _)).mono ?_; rintro e w' ⟨rfl, G3, rfl⟩))
          go_roundw
          case rel => exact ⟨j + 1 + 1, c + 1, _, by omega, by go_num, rfl, hid (by have := HcI.out; omega), by omega, by omega⟩
          case measure => simp [intOf]; omega
      · obtain rfl : i = v := by omega
        have hfin : c = r := by
          have := hI.out
          have := Hr.out
          omega
        subst hfin
        clear hI hi hin
        go_wp2
        go_end0
        exact ⟨rfl, bout (by repeat (first | exact Below.refl _ _ | refine bN ?_ _ | refine bD ?_ | refine bG ?_ _ | refine bI ?_ _ _ | refine bA ?_ _))⟩
end Go.Proofs.YtjchnliaglecoaaGreatDoor
