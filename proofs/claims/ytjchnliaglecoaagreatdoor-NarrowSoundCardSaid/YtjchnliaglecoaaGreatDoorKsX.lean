/- A type is like itself. Conditions: none. -/
import Derived.Deep.RegionHeld3
import Derived.Test.YtjchnliaglecoaaGreatDoorTk5X
import Derived.Laws.ResultCell
set_option linter.unusedVariables false
set_option linter.unusedSimpArgs false
namespace Go.Proofs.YtjchnliaglecoaaGreatDoor
open Go Go.RowKit Go.Nodes
set_option linter.unusedVariables false
set_option linter.unusedSimpArgs false
set_option maxRecDepth 100000 in
set_option maxHeartbeats 4000000 in
theorem like137 : ∀ (f : Nat) (W : World) (va : List Value) (T : Sk), TyAt W f va T →
    Calls Tryz.prog 137 #[.agg va.toArray, .agg va.toArray] W fun e w' => e = .returned (.bool true) ∧ Below W.heap.size W w'
  | 0, _, _, _, h => h.elim
  | f + 1, W, va, .mk k ns qs, hA => by
    obtain ⟨_, l1, l2, np, nc, ap, ac, rfl, hn, ha⟩ := hA
    have Hih : Hid (∀ W', Below W.heap.size W W' → ∀ va T, TyAt W f va T → Calls Tryz.prog 137 #[.agg va.toArray, .agg va.toArray] W' fun e w' => e = .returned (.bool true) ∧ Below W'.heap.size W' w') := hid fun W' hb va T h => like137 f W' va T (TyAt.later hb f _ _ h)
    have Hn := hid hn
    have Ha := hid ha
    unfold maxLen at l1 l2
    have p1 : (ns.length : Int) ≤ 9223372036854775807 := by omega
    have p2 : (qs.length : Int) ≤ 9223372036854775807 := by omega
    obtain ⟨u, hu⟩ : ∃ u, u = ns.length := ⟨_, rfl⟩
    obtain ⟨v, hv⟩ : ∃ v, v = qs.length := ⟨_, rfl⟩
    rw [← hu] at p1 ⊢
    rw [← hv] at p2 ⊢
    have Hu := hid hu
    have Hv := hid hv
    clear hn ha l1 l2 hu hv
    go_enter Tryz.func137, Tryz.ntmps137
    go_wp2
    go_loopw [33] (fun iv wr => ∃ (i r : Nat), i ≤ u ∧ iv = .int .i64 i ∧ wr = ((W.alloc (.cells #[.int .i64 k, .slice np u nc, .slice ap v ac] 39)).alloc (.cells #[.int .i64 k, .slice np u nc, .slice ap v ac] 39)).drewN r) (fun iv _ => u - (intOf iv).toNat)
    case atStart => exact ⟨0, 0, Nat.zero_le _, rfl, rfl⟩
    case round =>
      obtain ⟨i, r, hi, rfl, rfl⟩ := hrel
      by_cases hin : i < u
      · have hix : i < ns.length := by have := Hu.out; omega
        have i0 : (0 : Int) ≤ (i : Int) := by omega
        have i1 : (i : Int) < (u : Int) := by omega
        obtain ⟨b1, o1, x, hx, rfl, hb1, c0⟩ := text_cells Hn.out hix
        clear hx hi
        go_wp2
        go_quiet (fail)
        go_wp2
        go_roundw
        case rel => exact ⟨i + 1, _, by omega, by go_num, rfl⟩
        case measure => simp [intOf]; omega
      · obtain rfl : i = u := by omega
        clear hi hin
        go_wp2
        go_loopw [51] (fun iv wr => ∃ (z : Nat) (G : Gro), z ≤ v ∧ iv = .int .i64 z ∧ wr = grow ((W.alloc (.cells #[.int .i64 k, .slice np i nc, .slice ap v ac] 39)).alloc (.cells #[.int .i64 k, .slice np i nc, .slice ap v ac] 39)) G) (fun iv _ => v - (intOf iv).toNat)
        case atStart => exact ⟨0, _, Nat.zero_le _, rfl, below_grow2 (by repeat (first | exact Below.refl _ _ | refine bN ?_ _ | refine bD ?_ | refine bG ?_ _ | refine bI ?_ _ _ | refine bA ?_ _))⟩
        case round =>
          obtain ⟨i, G, hi, rfl, rfl⟩ := hrel
          by_cases hin : i < v
          · have hix : i < qs.length := by have := Hv.out; omega
            have i0 : (0 : Int) ≤ (i : Int) := by omega
            have i1 : (i : Int) < (v : Int) := by omega
            obtain ⟨b1, o1, k2, np2, nn2, nc2, ap2, an2, ac2, rfl, hb1, c0, c1, c2, hT⟩ := ty_cells Ha.out hix
            have HL : Hid (∀ W', Below W.heap.size W W' → Calls Tryz.prog 137 #[.agg #[.int .i64 k2, .slice np2 nn2 nc2, .slice ap2 an2 ac2], .agg #[.int .i64 k2, .slice np2 nn2 nc2, .slice ap2 an2 ac2]] W' fun e w' => e = .returned (.bool true) ∧ Below W'.heap.size W' w') := hid fun W' hb => Hih.out W' hb _ _ hT
            clear hT hi
            go_wp2
            go_region_held3 (fun w' => w'.cell? ⟨W.heap.size, 2, none⟩ = some (.slice (some ⟨b1, o1, none⟩) v ac) ∧ w'.cell? ⟨W.heap.size + 1, 2, none⟩ = some (.slice (some ⟨b1, o1, none⟩) v ac) ∧ w'.cell? ⟨b1, o1 + i * 3, none⟩ = some (.int .i64 k2) ∧ w'.cell? ⟨b1, o1 + i * 3 + 1, none⟩ = some (.slice np2 nn2 nc2) ∧ w'.cell? ⟨b1, o1 + i * 3 + 2, none⟩ = some (.slice ap2 an2 ac2)) (first | (simp [go_sem]; done) | (simp [go_sem, *]; done))
              (first | (go_at_call 137; refine (HL.out _ (by repeat (first | exact Below.refl _ _ | refine bN ?_ _ | refine bD ?_ | refine bG ?_ _ | refine bI ?_ _ _ | refine bA ?_ _))).mono ?_; rintro e w' ⟨rfl, hb⟩; obtain ⟨G3, rfl⟩ := bout hb; clear hb))
            go_wp2
            go_roundw
            case rel => exact ⟨i + 1, _, by omega, by go_num, below_grow2 (by repeat (first | exact Below.refl _ _ | refine bN ?_ _ | refine bD ?_ | refine bG ?_ _ | refine bI ?_ _ _ | refine bA ?_ _))⟩
            case measure => simp [intOf]; omega
          · obtain rfl : i = v := by omega
            clear hi hin
            go_wp2
            go_ret
            exact ⟨rfl, by repeat (first | exact Below.refl _ _ | refine bN ?_ _ | refine bD ?_ | refine bG ?_ _ | refine bI ?_ _ _ | refine bA ?_ _)⟩
end Go.Proofs.YtjchnliaglecoaaGreatDoor

/- A part of a type that may be may be; names of a shape that may be are apart. Conditions: none. -/
namespace Go.Proofs.YtjchnliaglecoaaGreatDoor
open Go Go.RowKit Go.Nodes
set_option linter.unusedVariables false
set_option linter.unusedSimpArgs false
theorem unionB_mono {d d' : Int} {qs : List Sk} (hd : d' ≤ d) (h : unionB d qs = true) : unionB d' qs = true := by
  unfold unionB at h ⊢
  rw [List.all_eq_true] at h ⊢
  intro i hi
  have h1 := h i hi
  unfold unionAt at h1 ⊢
  simp only [Bool.and_eq_true, decide_eq_true_eq] at h1 ⊢
  obtain ⟨⟨⟨⟨a, b⟩, c⟩, e⟩, f⟩ := h1
  exact ⟨⟨⟨⟨by omega, b⟩, c⟩, e⟩, f⟩
theorem chkL_mono {g g' : Sk → Int → Option Int} (hg : ∀ T m r m', g T m = some r → m' ≤ m → g' T m' = some (r - m + m')) (hle : ∀ T m r, g T m = some r → m ≤ r) :
    ∀ (l : List Sk) (m r m' : Int), chkL g l m = some r → m' ≤ m → chkL g' l m' = some (r - m + m')
  | [], m, r, m', h, hm => by cases h; unfold chkL; congr 1; omega
  | T :: l, m, r, m', h, hm => by
    unfold chkL at h ⊢
    split at h
    · cases h
    · rename_i n hn
      have h1 := hg T m n m' hn hm
      have h2 := hle T m n hn
      rw [h1]
      have h3 := chkL_mono hg hle l n r (n - m + m') h (by omega)
      simp only
      rw [h3]
      congr 1
      omega
theorem chk_mono : ∀ (f : Nat) (T : Sk) (d d' m m' r : Int), chk f T d m = some r → d' ≤ d → m' ≤ m → chk f T d' m' = some (r - m + m')
  | 0, _, _, _, _, _, _, h, _, _ => by cases h
  | f + 1, .mk k ns qs, d, d', m, m', r, h, hd, hm => by
    have ih : ∀ (T : Sk) (m r m' : Int), chk f T (d + 1) m = some r → m' ≤ m → chk f T (d' + 1) m' = some (r - m + m') := fun T m r m' h1 h2 => chk_mono f T (d + 1) (d' + 1) m m' r h1 (by omega) h2
    unfold chk at h ⊢
    split at h
    · cases h
    rename_i h0
    rw [if_neg (by omega)]
    split at h
    · rename_i h6
      rw [if_pos h6]
      split at h
      · rename_i h1
        rw [if_pos h1]
        cases h
        congr 1
        omega
      · cases h
    rename_i h6
    rw [if_neg h6]
    split at h
    · rename_i h7
      rw [if_pos h7]
      split at h
      · rename_i h1
        rw [if_pos ⟨unionB_mono hd h1.1, h1.2⟩]
        cases h
        congr 1
        omega
      · cases h
    rename_i h7
    rw [if_neg h7]
    split at h
    · rename_i h8
      rw [if_pos h8]
      split at h
      · rename_i h1
        rw [if_pos h1]
        rw [chkL_mono (fun T m r m' => ih T m r m') (fun T m r h => (chk_le f T (d + 1) m r h).1) qs (m + 1) r (m' + 1) h (by omega)]
        congr 1
        omega
      · cases h
    rename_i h8
    rw [if_neg h8]
    split at h
    · rename_i h9
      rw [if_pos h9]
      split at h
      · rename_i h1
        rw [if_pos h1]
        rw [chkL_mono (fun T m r m' => ih T m r m') (fun T m r h => (chk_le f T (d + 1) m r h).1) qs (m + 1) r (m' + 1) h (by omega)]
        congr 1
        omega
      · cases h
    · cases h
theorem chkL_part {g : Sk → Int → Option Int} (hle : ∀ T m r, g T m = some r → m ≤ r) : ∀ (l : List Sk) (m r : Int), chkL g l m = some r → ∀ T ∈ l, ∃ c c', g T c = some c' ∧ m ≤ c ∧ c' ≤ r
  | [], _, _, _, _, h => nomatch h
  | S :: l, m, r, h, T, hT => by
    unfold chkL at h
    split at h
    · cases h
    · rename_i n hn
      have hmono : ∀ (l : List Sk) (m r : Int), chkL g l m = some r → m ≤ r := by
        intro l
        induction l with
        | nil => intro m r h; cases h; exact Int.le_refl _
        | cons S l ih =>
          intro m r h
          unfold chkL at h
          split at h
          · cases h
          · rename_i n hn
            have := hle _ _ _ hn
            have := ih _ _ h
            omega
      rcases List.mem_cons.1 hT with rfl | hT
      · exact ⟨m, n, hn, Int.le_refl _, hmono l n r h⟩
      · obtain ⟨c, c', h1, h2, h3⟩ := chkL_part hle l n r h T hT
        have := hle _ _ _ hn
        exact ⟨c, c', h1, by omega, h3⟩
theorem ok_of {f : Nat} {T : Sk} {d c c' : Int} (h : chk f T d c = some c') (hd : 1 ≤ d) (hc : 0 ≤ c) (hr : c' ≤ 10000) : okT f T = true := by
  have h1 := chk_mono f T d 1 c 0 c' h hd hc
  unfold okT
  rw [h1]
  exact decide_eq_true (by omega)
/-- The parts of a shape or function that may be. -/
theorem ok_parts {f : Nat} {k : Int} {ns : List ByteArray} {qs : List Sk} (h : okT (f + 1) (.mk k ns qs) = true) (hk : k = 8 ∨ k = 9) : (∀ T ∈ qs, okT f T = true) ∧ (k = 8 → ns.length = qs.length ∧ shapeB ns qs = true) ∧ (k = 9 → ns.length = 0 ∧ qs.length ≠ 0) := by
  unfold okT at h
  split at h
  rotate_left
  · cases h
  rename_i n hn
  have hn1 := of_decide_eq_true h
  unfold chk at hn
  split at hn
  · cases hn
  rw [if_neg (by omega), if_neg (by omega)] at hn
  have part : chkL (fun T m => chk f T (1 + 1) m) qs (0 + 1) = some n → ∀ T ∈ qs, okT f T = true := fun h T hT => by
    obtain ⟨c, c', h1, h2, h3⟩ := chkL_part (fun T m r h => (chk_le f T (1 + 1) m r h).1) qs (0 + 1) n h T hT
    exact ok_of h1 (by decide) (by omega) (by omega)
  rcases hk with rfl | rfl
  · rw [if_pos rfl] at hn
    split at hn
    · rename_i h1
      exact ⟨part hn, fun _ => h1, fun h => by omega⟩
    · cases hn
  · rw [if_neg (by decide), if_pos rfl] at hn
    split at hn
    · rename_i h1
      exact ⟨part hn, fun h => by omega, fun _ => h1⟩
    · cases hn
theorem leT_false {a b : ByteArray} (h : leT a b = false) : b.toList < a.toList := by
  unfold leT at h
  rw [bytesLess_eq] at h
  simp only [Bool.or_eq_false_iff, decide_eq_false_iff_not] at h
  by_cases q : b.toList < a.toList
  · exact q
  · exact absurd (List.le_antisymm (show a.toList ≤ b.toList from q) (show b.toList ≤ a.toList from h.1)) (by simpa using h.2)
/-- Names of a shape that may be rise. -/
theorem names_rise {ns : List ByteArray} {qs : List Sk} (h : shapeB ns qs = true) : ∀ (j i : Nat), i < j → j < ns.length → (nameAt ns i).toList < (nameAt ns j).toList
  | 0, i, hi, _ => by omega
  | j + 1, i, hi, hj => by
    have h1 : shapeAt ns qs (j + 1) = true := by
      unfold shapeB at h
      rw [List.all_eq_true] at h
      exact h _ (List.mem_range.2 hj)
    unfold shapeAt at h1
    simp only [Nat.add_sub_cancel, Bool.and_eq_true, Bool.or_eq_true] at h1
    have h2 : leT (nameAt ns (j + 1)) (nameAt ns j) = false := by
      rcases h1.1.2 with q | q
      · simp at q
      · simpa using q
    have h3 := leT_false h2
    rcases Nat.lt_or_ge i j with q | q
    · exact List.lt_trans (names_rise h j i q (by omega)) h3
    · obtain rfl : i = j := by omega
      exact h3
end Go.Proofs.YtjchnliaglecoaaGreatDoor

/- flat, both, Same of a type with itself, walked. Conditions: the type may be; names of no monstrous size. -/
namespace Go.Proofs.YtjchnliaglecoaaGreatDoor
open Go Go.RowKit Go.Nodes
set_option linter.unusedVariables false
set_option linter.unusedSimpArgs false
theorem flat86 (k : Int) (np ap : Option Addr) (nn nc an ac : Nat) (w : World) : Calls Tryz.prog 86 #[.agg #[.int .i64 k, .slice np nn nc, .slice ap an ac]] w fun e w' => e = .returned (.bool (decide (0 ≤ k) && decide (k ≤ 7))) ∧ Below w.heap.size w w' := by
  have HF := hid (fun w => flat80 k w)
  generalize (decide (0 ≤ k) && decide (k ≤ 7)) = r at *
  go_enter Tryz.func86, Tryz.ntmps86
  go_wp2_with (go_at_call 80; refine (HF.out _).mono ?_; rintro e w' ⟨rfl, hb⟩; obtain ⟨G, rfl⟩ := bout hb; clear hb)
  go_ret
  exact ⟨rfl, by repeat (first | exact Below.refl _ _ | refine bN ?_ _ | refine bD ?_ | refine bG ?_ _ | refine bI ?_ _ _ | refine bA ?_ _)⟩
set_option maxRecDepth 100000 in
set_option maxHeartbeats 2000000 in
theorem both40 (f g : Nat) (W : World) (va vb : List Value) (T U : Sk) (hA : TyAt W f va T) (hB : TyAt W g vb U) (hS : SmallT f T) (hS2 : SmallT g U) (hok : okT f T = true) (hok2 : okT g U = true) :
    Calls Tryz.prog 40 #[.agg va.toArray, .agg vb.toArray] W fun e w' => e = .returned (.bool true) ∧ Below W.heap.size W w' := by
  have H1 : Hid (∀ W', Below W.heap.size W W' → Calls Tryz.prog 15 #[.agg va.toArray] W' fun e w2 => e = .returned (.bool true) ∧ Below W'.heap.size W' w2) := hid fun W' hb => by
    have := rcheck15 f W' va T (TyAt.later hb f _ _ hA) hS
    rwa [hok] at this
  have H2 : Hid (∀ W', Below W.heap.size W W' → Calls Tryz.prog 15 #[.agg vb.toArray] W' fun e w2 => e = .returned (.bool true) ∧ Below W'.heap.size W' w2) := hid fun W' hb => by
    have := rcheck15 g W' vb U (TyAt.later hb g _ _ hB) hS2
    rwa [hok2] at this
  obtain ⟨np, nn, nc, ap, an, ac, rfl, hf1, hf2⟩ := ty_form hA
  obtain ⟨np', nn', nc', ap', an', ac', rfl, hf3, hf4⟩ := ty_form hB
  generalize skK T = k at *
  generalize skK U = k' at *
  clear hf1 hf2 hf3 hf4 hA hB hS hS2 hok hok2
  go_enter Tryz.func40, Tryz.ntmps40
  go_wp2_with (first
    | (go_at_call 15; ((with_reducible refine (H1.out _ (by repeat (first | exact Below.refl _ _ | refine bN ?_ _ | refine bD ?_ | refine bG ?_ _ | refine bI ?_ _ _ | refine bA ?_ _))).mono ?_)); rintro e w' ⟨rfl, hb⟩; obtain ⟨G, rfl⟩ := bout hb; clear hb)
    | (go_at_call 15; ((with_reducible refine (H2.out _ (by repeat (first | exact Below.refl _ _ | refine bN ?_ _ | refine bD ?_ | refine bG ?_ _ | refine bI ?_ _ _ | refine bA ?_ _))).mono ?_)); rintro e w' ⟨rfl, hb⟩; obtain ⟨G, rfl⟩ := bout hb; clear hb))
  go_ret
  exact ⟨rfl, by repeat (first | exact Below.refl _ _ | refine bN ?_ _ | refine bD ?_ | refine bG ?_ _ | refine bI ?_ _ _ | refine bA ?_ _)⟩
set_option maxRecDepth 100000 in
set_option maxHeartbeats 2000000 in
theorem same88 (f : Nat) (W : World) (va : List Value) (T : Sk) (hA : TyAt W f va T) (hS : SmallT f T) (hok : okT f T = true) :
    Calls Tryz.prog 88 #[.agg va.toArray, .agg va.toArray] W fun e w' => e = .returned (.bool true) ∧ Below W.heap.size W w' := by
  have H1 : Hid (∀ W', Below W.heap.size W W' → Calls Tryz.prog 15 #[.agg va.toArray] W' fun e w2 => e = .returned (.bool true) ∧ Below W'.heap.size W' w2) := hid fun W' hb => by
    have := rcheck15 f W' va T (TyAt.later hb f _ _ hA) hS
    rwa [hok] at this
  have H2 : Hid (∀ W', Below W.heap.size W W' → Calls Tryz.prog 137 #[.agg va.toArray, .agg va.toArray] W' fun e w2 => e = .returned (.bool true) ∧ Below W'.heap.size W' w2) := hid fun W' hb => like137 f W' va T (TyAt.later hb f _ _ hA)
  obtain ⟨np, nn, nc, ap, an, ac, rfl, hf1, hf2⟩ := ty_form hA
  generalize skK T = k at *
  clear hf1 hf2 hA hS hok
  go_enter Tryz.func88, Tryz.ntmps88
  go_wp2_with (first
    | (go_at_call 15; refine (H1.out _ (by repeat (first | exact Below.refl _ _ | refine bN ?_ _ | refine bD ?_ | refine bG ?_ _ | refine bI ?_ _ _ | refine bA ?_ _))).mono ?_; rintro e w' ⟨rfl, hb⟩; obtain ⟨G, rfl⟩ := bout hb; clear hb)
    | (go_at_call 137; refine (H2.out _ (by repeat (first | exact Below.refl _ _ | refine bN ?_ _ | refine bD ?_ | refine bG ?_ _ | refine bI ?_ _ _ | refine bA ?_ _))).mono ?_; rintro e w' ⟨rfl, hb⟩; obtain ⟨G, rfl⟩ := bout hb; clear hb))
  go_ret
  exact ⟨rfl, by repeat (first | exact Below.refl _ _ | refine bN ?_ _ | refine bD ?_ | refine bG ?_ _ | refine bI ?_ _ _ | refine bA ?_ _)⟩
end Go.Proofs.YtjchnliaglecoaaGreatDoor

/- field, walked: a shape's field of a name that it has. Conditions: the names rise. -/
namespace Go.Proofs.YtjchnliaglecoaaGreatDoor
open Go Go.RowKit Go.Nodes
set_option linter.unusedVariables false
set_option linter.unusedSimpArgs false
theorem results_row_tmp {P : Program} {fn : Func} {p u : Tmp} {ty : TypeId} (h : fn.results = #[.cell p ty, .tmp u]) (tmps : Array Value) (w : World) (g : Nat) (t : TypeId) (cs : Array Value) (fr : Nat × Nat) (d : TypeDesc)
    (hp : tmps.getD p undef = .pointer (some ⟨g, 0, none⟩)) (hg : w.heap[g]? = some (.cells cs t fr))
    (hu : P.underlying ty = some d) (hd : (match d with | .struct _ | .array _ _ => true | _ => false) = true) (hi : (P.info? ty).map (·.size) = some cs.size) :
    (results fn tmps).run P w = .ok (.tuple #[.agg cs, tmps.getD u undef]) w := by
  rw [results_cell_tmp h, hp]
  simp [asAddr, run_loadVar_row w g t ty cs fr d hg hu hd hi]
set_option maxRecDepth 100000 in
set_option maxHeartbeats 2000000 in
theorem field87 (f : Nat) (W : World) (k : Int) (np ap : Option Addr) (nc ac : Nat) (ns : List ByteArray) (qs : List Sk) (hn : RowOf W 1 textE np ns) (ha : RowOf W 3 (TyAt W f) ap qs) (u : Nat) (hu : u = ns.length) (hv : u = qs.length) (p1 : (u : Int) ≤ 9223372036854775807)
    (hsh : shapeB ns qs = true) (i : Nat) (hi : i < u) (x : ByteArray) (hx : nameAt ns i = x) (k2 : Int) (np2 : Option Addr) (nn2 nc2 : Nat) (ap2 : Option Addr) (an2 ac2 : Nat) (b1 o1 : Nat) (hap : ap = some ⟨b1, o1, none⟩) (hb1 : b1 < W.heap.size)
    (c0 : W.cell? ⟨b1, o1 + i * 3, none⟩ = some (.int .i64 k2)) (c1 : W.cell? ⟨b1, o1 + i * 3 + 1, none⟩ = some (.slice np2 nn2 nc2)) (c2 : W.cell? ⟨b1, o1 + i * 3 + 2, none⟩ = some (.slice ap2 an2 ac2)) :
    Calls Tryz.prog 87 #[.agg #[.int .i64 k, .slice np u nc, .slice ap u ac], .string x] W fun e w' => e = .returned (.tuple #[.agg #[.int .i64 k2, .slice np2 nn2 nc2, .slice ap2 an2 ac2], .bool true]) ∧ Below W.heap.size W w' := by
  have Hn := hid hn
  have Hu := hid hu
  have Hr := hid (names_rise hsh)
  have Hx := hid hx
  subst hap
  clear hn ha hu hv hsh hx
  have hi1 : (i : Int) < (u : Int) := by omega
  go_enter Tryz.func87, Tryz.ntmps87
  go_wp2
  go_loopw [11] (fun iv wr => ∃ j : Nat, j ≤ i ∧ iv = .int .i64 j ∧ wr = (W.alloc (.cells #[.int .i64 k, .slice np u nc, .slice (some ⟨b1, o1, none⟩) u ac] 39)).alloc (.cells #[.int .i64 0, .slice none 0 0, .slice none 0 0] 39)) (fun iv _ => u - (intOf iv).toNat)
  case atStart => exact ⟨0, Nat.zero_le _, rfl, by first | trivial | rfl⟩
  case round =>
    obtain ⟨j, hj, rfl, rfl⟩ := hrel
    have hju : j < u := by omega
    have hix : j < ns.length := by have := Hu.out; omega
    have j0 : (0 : Int) ≤ (j : Int) := by omega
    have j1 : (j : Int) < (u : Int) := by omega
    obtain ⟨bn, on, y, hy, rfl, hbn, cn⟩ := text_cells Hn.out hix
    rw [← nameAt_of hix] at hy
    by_cases hlt : j < i
    · have hne : (y.toList == x.toList) = false := by
        have h1 := Hr.out i j hlt (by have := Hu.out; omega)
        rw [hy, Hx.out] at h1
        simp only [beq_eq_false_iff_ne, ne_eq]
        intro e
        rw [e] at h1
        exact absurd h1 (List.lt_irrefl _)
      clear hy
      go_wp2
      go_roundw
      case rel => exact ⟨j + 1, by omega, by go_num, by first | trivial | rfl⟩
      case measure => simp [intOf]; omega
    · obtain rfl : j = i := by omega
      rw [Hx.out] at hy
      subst hy
      go_wp2
      exact ⟨rfl, _, results_row_tmp (by rfl) _ _ (W.heap.size + 1) 39 #[.int .i64 k2, .slice np2 nn2 nc2, .slice ap2 an2 ac2] (0, 0) _ rfl (by
        have := heap_alloc_new (W.alloc (.cells #[.int .i64 k, .slice (some ⟨bn, on, none⟩) u nc, .slice (some ⟨b1, o1, none⟩) u ac] 39)) (.cells #[.int .i64 k2, .slice np2 nn2 nc2, .slice ap2 an2 ac2] 39)
        simpa using this) Tryz.underlying39 rfl (by kernel_rfl), rfl, by repeat (first | exact Below.refl _ _ | refine bN ?_ _ | refine bD ?_ | refine bG ?_ _ | refine bI ?_ _ _ | refine bA ?_ _)⟩
end Go.Proofs.YtjchnliaglecoaaGreatDoor
