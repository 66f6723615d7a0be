/- EraseLeaves: the law, walked. Conditions: the sizes that a program may hold. -/
import Derived.Test.YtbgjanmheagilaaGreatDoorEd
import Derived.Test.YtbgjanmheagilaaGreatDoorAw14X
set_option linter.unusedVariables false
set_option linter.unusedSimpArgs false
namespace Go.Proofs.YtbgjanmheagilaaGreatDoor
open Go Go.RowKit Go.Nodes
set_option linter.unusedVariables false
set_option linter.unusedSimpArgs false
def leafB (k : Int) : Bool := decide (k < 31) && (k != 12)
theorem kept_count (ns : List Nd) (hsd : ∀ (i : Nat) (x : Nd), ns[i]? = some x → 1 ≤ x.kind ∧ x.kind ≤ 36) : ∀ (ys : List (Int × Bool)) (d : Nat), d + ys.length = ns.length →
    (∀ (i : Nat) (h : i < ys.length), ys[i].1 = ((d + i : Nat) : Int) ∧ (ys[i].2 = true → typedK (kindAt ns ((d + i : Nat) : Int)) = true)) →
    (∀ k ∈ keptK ns ys, k < 31) ∧ (keptK ns ys).countP (fun k => k != 12) = ((ns.drop d).map Nd.kind).countP leafB
  | [], d, hl, _ => by
    have : ns.drop d = [] := by simp at hl; simp; omega
    simp [keptK, this]
  | (n, t) :: ys, d, hl, hy => by
    have hd : d < ns.length := by simp at hl; omega
    have h0 := hy 0 (by simp)
    simp only [List.getElem_cons_zero, Nat.add_zero] at h0
    obtain ⟨rfl, ht⟩ := h0
    have hk : kindAt ns (d : Int) = ns[d].kind := by unfold kindAt; rw [Int.toNat_natCast, List.getElem?_eq_getElem hd]
    obtain ⟨b1, b2⟩ := hsd d ns[d] (List.getElem?_eq_getElem hd)
    obtain ⟨i1, i2⟩ := kept_count ns hsd ys (d + 1) (by simp at hl; omega) (fun i h => by
      have := hy (i + 1) (by simp; omega)
      simp only [List.getElem_cons_succ] at this
      rw [show d + 1 + i = d + (i + 1) by omega]; exact this)
    rw [List.drop_eq_getElem_cons hd, List.map_cons, List.countP_cons]
    rw [hk] at ht
    cases t with
    | true =>
      have ht := ht rfl
      have hge : ¬ ns[d].kind < 31 := by simp [typedK] at ht; omega
      have hl0 : leafB ns[d].kind = false := by simp [leafB, hge]
      simp only [keptK, List.countP_cons, hl0]
      exact ⟨fun k hk => by rcases List.mem_cons.1 hk with rfl | h; decide; exact i1 k h, by rw [i2]; rfl⟩
    | false =>
      simp only [keptK, hk]
      cases htk : typedK ns[d].kind with
      | true =>
        have hge : ¬ ns[d].kind < 31 := by simp [typedK] at htk; omega
        have hl0 : leafB ns[d].kind = false := by simp [leafB, hge]
        simp only [hl0, if_true]
        exact ⟨i1, by rw [i2]; rfl⟩
      | false =>
        have hlt : ns[d].kind < 31 := by simp [typedK] at htk; omega
        have hl0 : leafB ns[d].kind = (ns[d].kind != 12) := by simp [leafB, hlt]
        simp only [hl0, Bool.false_eq_true, if_false, List.countP_cons]
        exact ⟨fun k hk => by rcases List.mem_cons.1 hk with rfl | h; exact hlt; exact i1 k h, by rw [i2]⟩
theorem flat_len (os : List On) : (flat os).length = os.length * 4 := by
  induction os with
  | nil => rfl
  | cons x os ih => simp [flat, On.cells] at ih ⊢; omega
theorem flat_get : ∀ (os : List On) (i : Nat) (h : i < os.length) (j : Nat), j < 4 → (flat os)[i * 4 + j]? = (os[i].cells)[j]?
  | [], i, h, j, hj => by simp at h
  | x :: os, 0, h, j, hj => by
    show (x.cells ++ flat os)[0 * 4 + j]? = _
    rw [List.getElem?_append_left (by simp [On.cells]; omega)]
    simp
  | x :: os, i + 1, h, j, hj => by
    show (x.cells ++ flat os)[(i + 1) * 4 + j]? = _
    rw [List.getElem?_append_right (by simp [On.cells]; omega), show (i + 1) * 4 + j - x.cells.length = i * 4 + j by simp [On.cells]; omega]
    exact flat_get os i (by simpa using h) j hj
/-- A node that was laid, as it lies. -/
theorem on_at {W : World} {B : Nat} {v : Value} {os : List On} (h : W.ownsRow B 30 4 v os.length (flat os)) {i : Nat} (hi : i < os.length) : ∃ g cap, v = .slice (some ⟨g, 0, none⟩) os.length cap ∧ B ≤ g ∧ g < W.heap.size ∧
    W.cell? ⟨g, i * 4, none⟩ = some (.int .i64 os[i].kind) ∧ W.cell? ⟨g, i * 4 + 1, none⟩ = some (.string os[i].text) ∧ W.cell? ⟨g, i * 4 + 2, none⟩ = some (.slice os[i].kp os[i].kn os[i].kc) ∧ W.cell? ⟨g, i * 4 + 3, none⟩ = some (.int .i64 os[i].place) := by
  rcases h.2 with ⟨_, h0⟩ | ⟨g, cap, cur, hv, hB, hg, hnc, _, hsz, htk⟩
  · omega
  · have hget : ∀ j, j < 4 → cur[i * 4 + j]? = (os[i].cells)[j]? := fun j hj => by
      rw [← flat_get os i hi j hj, ← htk, List.getElem?_take_of_lt (by omega)]
      simp
    refine ⟨g, cap, hv, hB, (Array.getElem?_eq_some_iff.1 hg).1, ?_, ?_, ?_, ?_⟩
    · have := hget 0 (by omega)
      simp only [Nat.add_zero] at this
      simp [World.cell?, hg, this, On.cells]
    · simp [World.cell?, hg, hget 1 (by omega), On.cells]
    · simp [World.cell?, hg, hget 2 (by omega), On.cells]
    · simp [World.cell?, hg, hget 3 (by omega), On.cells]
theorem countP_take_succ {α : Type} (l : List α) (p : α → Bool) (j : Nat) (h : j < l.length) : (l.take (j + 1)).countP p = (l.take j).countP p + if p l[j] then 1 else 0 := by
  rw [List.take_add_one, List.getElem?_eq_getElem h, List.countP_append]
  simp [List.countP_cons]
def leafN (ns : List Nd) (j : Nat) : Nat := ((ns.take j).map Nd.kind).countP leafB
theorem leafN_le (ns : List Nd) (j : Nat) : leafN ns j ≤ j := by
  unfold leafN
  have h1 := List.countP_le_length (p := leafB) (l := (ns.take j).map Nd.kind)
  rw [List.length_map, List.length_take] at h1
  omega
theorem leafN_succ (ns : List Nd) (j : Nat) (h : j < ns.length) : leafN ns (j + 1) = leafN ns j + if leafB ns[j].kind then 1 else 0 := by
  unfold leafN
  rw [List.map_take, List.map_take, countP_take_succ _ _ _ (by simpa using h)]
  simp
def restN (os : List On) (j : Nat) : Nat := ((os.take j).map On.kind).countP (fun k => k != 12)
theorem restN_le (os : List On) (j : Nat) : restN os j ≤ j := by
  unfold restN
  have h1 := List.countP_le_length (p := (fun k : Int => k != 12)) (l := (os.take j).map On.kind)
  rw [List.length_map, List.length_take] at h1
  omega
theorem restN_succ (os : List On) (j : Nat) (h : j < os.length) : restN os (j + 1) = restN os j + if os[j].kind != 12 then 1 else 0 := by
  unfold restN
  rw [List.map_take, List.map_take, countP_take_succ _ _ _ (by simpa using h)]
  simp
set_option maxRecDepth 100000 in
set_option maxHeartbeats 4000000 in
theorem eraseLeaves_any (p : Option Addr) (c : Nat) (ns : List Nd) (w : World) (ha : NodesAt w p ns) (hs : Slim ns) (hc : Capped ns) (hl0 : Lib0 w) :
    Calls Tryz.prog 3 #[.slice p ns.length c] w fun e w' => e = .returned (.bool true) ∧ Below w.heap.size w w' := by
  have Haw : Hid (∀ w', Below w.heap.size w w' → Calls Tryz.prog 8 #[] w' fun e w2 => e = .returned (.bool true) ∧ Below w'.heap.size w' w2) := hid fun w' h => awake14 w' (hl0.later h)
  have F1 : Hid (∀ w', Below w.heap.size w w' → Calls Tryz.prog 9 #[.slice p ns.length c] w' fun e w2 => e = .returned (.bool (fewS ns 0)) ∧ Below w'.heap.size w' w2) := hid fun w' h => few_any p c ns w' (NodesAt.later ha h)
  have F2 : Hid (fewS ns 0 = true → ∀ w', Below w.heap.size w w' → Calls Tryz.prog 10 #[.slice p ns.length c] w' fun e w2 => Below w'.heap.size w' w2 ∧ ∃ v n, e = .returned (.tuple #[v, .int .i64 n]) ∧
      (n ≠ 0 ∨ (n = 0 ∧ Sound ns ∧ ∃ B os ys, w'.heap.size ≤ B ∧ YsOf ns ys ∧ os.map On.kind = keptK ns ys ∧ w2.ownsRow B 30 4 v os.length (flat os)))) := hid fun hf w' h => tree10_any p c ns w' (NodesAt.later ha h) (small_of hs hf) hc (hl0.later h)
  have Hsm := hid fun h => small_of hs h
  obtain ⟨L, hL⟩ : ∃ L, L = ns.length := ⟨_, rfl⟩
  rw [← hL] at F1 F2 ⊢
  have HL := hid hL
  have Ha := hid ha
  clear ha hs hc hl0 hL
  cases hf : fewS ns 0 with
  | false =>
    rw [hf] at F1
    clear F2 Hsm hf
    go_enter Tryz.func3, Tryz.ntmps3
    go_wp2_with (first
      | (go_at_call 8; ((with_reducible refine (Haw.out _ (by repeat (first | exact Below.refl _ _ | refine bG ?_ _ | refine bA ?_ _ | refine bD ?_ | refine bN ?_ _))).mono ?_)); rintro e w' ⟨rfl, hb⟩; obtain ⟨g1, rfl⟩ := bout hb; clear hb)
      | (go_at_call 9; ((with_reducible refine (F1.out _ (by repeat (first | exact Below.refl _ _ | refine bG ?_ _ | refine bA ?_ _ | refine bD ?_ | refine bN ?_ _))).mono ?_)); rintro e w' ⟨rfl, hb⟩; obtain ⟨g2, rfl⟩ := bout hb; clear hb))
    go_ret
    exact ⟨rfl, by repeat (first | exact Below.refl _ _ | refine bG ?_ _ | refine bA ?_ _ | refine bD ?_ | refine bN ?_ _)⟩
  | true =>
    rw [hf] at F1
    have G2 := hid (F2.out hf)
    have Hs := hid (Hsm.out hf)
    clear F2 Hsm hf
    go_enter Tryz.func3, Tryz.ntmps3
    go_wp2_with (first
      | (go_at_call 8; ((with_reducible refine (Haw.out _ (by repeat (first | exact Below.refl _ _ | refine bG ?_ _ | refine bA ?_ _ | refine bD ?_ | refine bN ?_ _))).mono ?_)); rintro e w' ⟨rfl, hb⟩; obtain ⟨g1, rfl⟩ := bout hb; clear hb)
      | (go_at_call 9; ((with_reducible refine (F1.out _ (by repeat (first | exact Below.refl _ _ | refine bG ?_ _ | refine bA ?_ _ | refine bD ?_ | refine bN ?_ _))).mono ?_)); rintro e w' ⟨rfl, hb⟩; obtain ⟨g2, rfl⟩ := bout hb; clear hb)
      | (go_at_call 10; ((with_reducible refine (G2.out _ (by repeat (first | exact Below.refl _ _ | refine bG ?_ _ | refine bA ?_ _ | refine bD ?_ | refine bN ?_ _))).mono ?_)); rintro e w' ⟨hb, v, n, rfl, hR⟩; have HR := hid hR; obtain ⟨g3, rfl⟩ := bout hb; clear hb hR))
    · go_ret
      exact ⟨rfl, by repeat (first | exact Below.refl _ _ | refine bG ?_ _ | refine bA ?_ _ | refine bD ?_ | refine bN ?_ _)⟩
    · have hn0 : n = 0 := by
        rename_i h _ _
        simpa using h
      subst hn0
      obtain ⟨hsd, B, os, ys, hBw, hys, hos, hO⟩ := (HR.out.resolve_left fun h => h rfl).2
      obtain ⟨k1, k2⟩ := kept_count ns (fun i x h => ⟨(hsd i x h).2.1, (hsd i x h).2.2.1⟩) ys 0 (by have := hys.1; omega) (fun i h => by rw [Nat.zero_add]; exact hys.2 i h)
      have hKs : Hid ((∀ x ∈ os, x.kind < 31) ∧ restN os os.length = leafN ns ns.length) := hid ⟨fun x hx => k1 _ (by rw [← hos]; exact List.mem_map_of_mem hx), by
        unfold restN leafN
        rw [List.take_length, List.take_length, hos, k2]; simp⟩
      have hol : os.length ≤ L := by
        have h1 := congrArg List.length hos
        have h2 := keptK_len ns ys
        have h3 := hys.1
        have h4 := HL.out
        simp at h1
        omega
      have hL5 : L ≤ 5000 := by have := HL.out; have := Hs.out.1; omega
      obtain ⟨W0, hW0⟩ : ∃ W0, grow w ((g1.app g2).app g3) = W0 := ⟨_, rfl⟩
      have hb0 : Below w.heap.size w W0 := by rw [← hW0]; exact below_grow _ _
      have hO0 : Hid (W0.ownsRow B 30 4 v os.length (flat os)) := hid (by rw [← hW0]; simpa [go_sem] using hO)
      rw [hW0]
      clear hW0 HR hO hBw hys hos k1 k2 hsd
      go_loopw [5, 25] (fun nv iv wr => ∃ (j : Nat), j ≤ L ∧ iv = .int .i64 j ∧ nv = .int .i64 (leafN ns j) ∧ Below W0.heap.size W0 wr) (fun _ iv _ => L - (intOf iv).toNat)
      case atStart => exact ⟨0, Nat.zero_le _, rfl, rfl, Below.refl _ _⟩
      case round =>
        obtain ⟨j, hj, rfl, rfl, hB1⟩ := hrel
        by_cases hlt : j < L
        · have hjn : j < ns.length := by have := HL.out; omega
          obtain ⟨b, o, rfl, hbl, hnz, hfine, c0, c1, c2, c3⟩ := nd_at (NodesAt.later Ha.out (hb0.trans (hB1.mono hb0.size))) hjn
          have hsucc := leafN_succ ns j hjn
          have hle := leafN_le ns j
          have hk0 : (0 : Int) ≤ (j : Int) := by omega
          have hk1 : (j : Int) < (L : Int) := by omega
          have HB := hid hB1
          generalize ns[j].kind = kd at *
          clear hnz hfine hB1
          by_cases h31 : kd < 31
          · by_cases h12 : kd = 12
            · subst h12
              have Hsucc : Hid (leafN ns (j + 1) = leafN ns j) := hid hsucc
              clear hsucc
              go_wp2
              go_roundw
              case rel => exact ⟨j + 1, by omega, by go_num, by rw [Hsucc.out], by have := HB.out; repeat (first | exact Below.refl _ _ | exact HB.out | refine bG ?_ _ | refine bI ?_ _ _ | refine bA ?_ _)⟩
              case measure => simp [intOf]; omega
            · have hne : (kd != 12) = true := by simp [h12]
              have Hsucc : Hid (leafN ns (j + 1) = leafN ns j + 1) := hid (by rw [hsucc]; simp [leafB, h31, h12])
              clear hsucc
              go_wp2
              go_roundw
              case rel => exact ⟨j + 1, by omega, by go_num, by rw [Hsucc.out]; go_num, by have := HB.out; repeat (first | exact Below.refl _ _ | exact HB.out | refine bG ?_ _ | refine bI ?_ _ _ | refine bA ?_ _)⟩
              case measure => simp [intOf]; omega
          · have Hsucc : Hid (leafN ns (j + 1) = leafN ns j) := hid (by rw [hsucc]; simp [leafB, h31])
            clear hsucc
            go_wp2
            go_roundw
            case rel => exact ⟨j + 1, by omega, by go_num, by rw [Hsucc.out], by have := HB.out; repeat (first | exact Below.refl _ _ | exact HB.out | refine bG ?_ _ | refine bI ?_ _ _ | refine bA ?_ _)⟩
            case measure => simp [intOf]; omega
        · obtain rfl : j = L := by omega
          obtain ⟨W1, hW1⟩ : ∃ W1, W1 = wr := ⟨_, rfl⟩
          subst hW1
          have hO1 : Hid (∀ W, Below W1.heap.size W1 W → W.ownsRow B 30 4 v os.length (flat os)) := hid fun W hW => own_below (own_below hO0.out hB1) hW
          have HB1 := hid hB1
          obtain ⟨M, hM⟩ : ∃ M, M = leafN ns j := ⟨_, rfl⟩
          rw [← hM]
          have HM := hid hM
          have hMle : M ≤ 5000 := by have := leafN_le ns j; omega
          obtain ⟨q, hq⟩ : ∃ q, q = os.length := ⟨_, rfl⟩
          obtain ⟨vp, vc, hv⟩ : ∃ vp vc, v = .slice vp q vc := by
            rcases hO0.out.2 with ⟨e1, e2⟩ | ⟨g, cap, cur, e1, _⟩
            · exact ⟨none, 0, by rw [e1, hq, e2]⟩
            · exact ⟨_, _, by rw [e1, hq]⟩
          subst hv
          have Hq := hid hq
          rw [← hq] at hol
          clear hB1 hM hq hO0
          go_wp2
          go_loopw [6, 42] (fun nv iv wr => ∃ (i : Nat), i ≤ q ∧ iv = .int .i64 i ∧ nv = .int .i64 (restN os i) ∧ Below W1.heap.size W1 wr) (fun _ iv _ => q - (intOf iv).toNat)
          case atStart => exact ⟨0, Nat.zero_le _, rfl, rfl, Below.refl _ _⟩
          case round =>
            obtain ⟨i, hi, rfl, rfl, hB2⟩ := hrel
            by_cases hlt : i < q
            · have hin : i < os.length := by have := Hq.out; omega
              obtain ⟨g, cap, hv, hBg, hgl, c0, c1, c2, c3⟩ := on_at (hO1.out wr hB2) hin
              rw [← Hq.out] at hv
              obtain ⟨rfl, rfl⟩ : vp = some ⟨g, 0, none⟩ ∧ vc = cap := by cases hv; exact ⟨rfl, rfl⟩
              clear hv
              have hsucc := restN_succ os i hin
              have hle := restN_le os i
              have h31 : os[i].kind < 31 := hKs.out.1 _ (List.getElem_mem hin)
              have h31' : ¬ 31 ≤ os[i].kind := by omega
              have hk0 : (0 : Int) ≤ (i : Int) := by omega
              have hk1 : (i : Int) < (q : Int) := by omega
              have HB := hid hB2
              generalize os[i].kind = kd at *
              generalize os[i].text = tx at *
              generalize os[i].kp = kp at *
              generalize os[i].kn = kn at *
              generalize os[i].kc = kc at *
              generalize os[i].place = pl at *
              clear hB2
              by_cases h12 : kd = 12
              · subst h12
                have Hsucc : Hid (restN os (i + 1) = restN os i) := hid hsucc
                clear hsucc
                go_wp2
                go_roundw
                case rel => exact ⟨i + 1, by omega, by go_num, by rw [Hsucc.out], by have := HB.out; repeat (first | exact Below.refl _ _ | exact HB.out | refine bG ?_ _ | refine bI ?_ _ _ | refine bA ?_ _)⟩
                case measure => simp [intOf]; omega
              · have hne : (kd != 12) = true := by simp [h12]
                have Hsucc : Hid (restN os (i + 1) = restN os i + 1) := hid (by rw [hsucc]; simp [h12])
                clear hsucc
                go_wp2
                go_roundw
                case rel => exact ⟨i + 1, by omega, by go_num, by rw [Hsucc.out]; go_num, by have := HB.out; repeat (first | exact Below.refl _ _ | exact HB.out | refine bG ?_ _ | refine bI ?_ _ _ | refine bA ?_ _)⟩
                case measure => simp [intOf]; omega
            · obtain rfl : i = q := by omega
              have he : restN os i = M := by rw [Hq.out, HM.out, hKs.out.2, HL.out]
              rw [he]
              have HB := hid hB2
              clear he hB2
              go_wp2
              go_ret
              exact ⟨by simp, hb0.trans ((HB1.out.trans (HB.out.mono HB1.out.size)).mono hb0.size)⟩
end Go.Proofs.YtbgjanmheagilaaGreatDoor
