/- The reference's Labels, walked. Conditions: the sizes that a program may hold. -/
import Derived.Test.YtbgjanmheagilaaGreatDoorLpX
set_option linter.unusedVariables false
set_option linter.unusedSimpArgs false
namespace Go.Proofs.YtbgjanmheagilaaGreatDoor
open Go Go.RowKit Go.Nodes Go.WideMaps Go.Maps
set_option linter.unusedVariables false
set_option linter.unusedSimpArgs false
/-- The numbers' row, in the midst of the walk. -/
def atL (ns : List Nd) (L j : Nat) : List Int := (labS ns j).1 ++ List.replicate (L - j) 0
theorem atL_len {ns : List Nd} {L j : Nat} (hL : L = ns.length) (h : j ≤ L) : (atL ns L j).length = L := by
  unfold atL; rw [List.length_append, labS_len ns j (by omega), List.length_replicate]; omega
theorem atL_get {ns : List Nd} {L j k : Nat} (hL : L = ns.length) (hj : j ≤ L) (hk : k < j) : (atL ns L j).getD k 0 = (labS ns j).1.getD k 0 := by
  unfold atL
  have := labS_len ns j (by omega)
  simp [List.getD, List.getElem?_append_left (show k < (labS ns j).1.length by omega)]
theorem atL_set {ns : List Nd} {L j : Nat} {v : Int} (hL : L = ns.length) (hj : j < L) (h : (labS ns (j + 1)).1 = (labS ns j).1 ++ [v]) : (atL ns L j).set j v = atL ns L (j + 1) := by
  unfold atL
  have hl := labS_len ns j (by omega)
  rw [h, List.set_append_right _ _ (by omega), hl, Nat.sub_self, show L - j = (L - (j + 1)) + 1 by omega, List.replicate_succ, List.set_cons_zero, List.append_assoc]
  rfl
def atC (ns : List Nd) (L j : Nat) : Array Value := ((atL ns L j).map (Value.int .i64)).toArray
theorem atC_get {ns : List Nd} {L j k : Nat} (hL : L = ns.length) (hj : j ≤ L) (hk : k < L) : (atC ns L j)[k]? = some (.int .i64 ((atL ns L j).getD k 0)) := by
  have := atL_len (j := j) hL hj
  simp [atC, List.getD, List.getElem?_eq_getElem (show k < (atL ns L j).length by omega)]
theorem atC_set {ns : List Nd} {L j : Nat} {v : Int} (hL : L = ns.length) (hj : j < L) (h : (labS ns (j + 1)).1 = (labS ns j).1 ++ [v]) : (atC ns L j).setIfInBounds j (.int .i64 v) = atC ns L (j + 1) := by
  unfold atC
  rw [← atL_set hL hj h]
  apply Array.toList_inj.1
  simp [List.map_set]
/-- What lies at the head of each round. -/
def Jr (w : World) (ns : List Nd) (AB j : Nat) (v : Value) (W : World) : Prop :=
  Below w.heap.size w W ∧ W.heap[AB]? = some (.cells (atC ns ns.length j) 3 (0, 0)) ∧ ∃ os, os.length ≤ j ∧ os.map strip = (labS ns j).2 ∧ W.ownsRow (AB + 1) 30 4 v os.length (flatN os) ∧ ∀ x ∈ os, Ints (AB + 1) W (.slice x.kp x.kids.length x.kcap) x.kids
theorem Jr.later {w W W1 : World} {ns : List Nd} {AB j : Nat} {v : Value} (hJ : Jr w ns AB j v W) (hb : Below W.heap.size W W1) : Jr w ns AB j v W1 := by
  obtain ⟨hB, hat, os, ho1, ho2, ho3, ho4⟩ := hJ
  exact ⟨hB.trans (hb.mono hB.size), (hb.block AB (Array.getElem?_eq_some_iff.1 hat).1).trans hat, os, ho1, ho2, own_below ho3 hb, fun x hx => own_below (ho4 x hx) hb⟩
theorem jr_at {w W W1 : World} {ns : List Nd} {AB j : Nat} {v : Value} (hJ : Jr w ns AB j v W) (hb : Below W.heap.size W W1) (hj : j < ns.length) (hA : w.heap.size ≤ AB) (val : Int) (h1 : (labS ns (j + 1)).1 = (labS ns j).1 ++ [val]) (h2 : (labS ns (j + 1)).2 = (labS ns j).2) :
    Jr w ns AB (j + 1) v (W1.setCell ⟨AB, j, none⟩ (.int .i64 val)) := by
  obtain ⟨hB, hat, os, ho1, ho2, ho3, ho4⟩ := hJ
  have hAl := (Array.getElem?_eq_some_iff.1 hat).1
  refine ⟨(hB.trans (hb.mono hB.size)).setCell (p := ⟨AB, j, none⟩) hA _, ?_, os, by omega, by rw [h2]; exact ho2, ownsRow_setCell_below (own_below ho3 hb) (by show AB < AB + 1; omega) _, fun x hx => Ints_setCell (own_below (ho4 x hx) hb) _ (by omega)⟩
  rw [← atC_set rfl hj h1]
  exact cells_set ((hb.block AB hAl).trans hat) j _
theorem jr_skip {w W W1 : World} {ns : List Nd} {AB j : Nat} {v : Value} (hJ : Jr w ns AB j v W) (hb : Below W.heap.size W W1) (hj : j < ns.length) (h1 : (labS ns (j + 1)).1 = (labS ns j).1 ++ [0]) (h2 : (labS ns (j + 1)).2 = (labS ns j).2) :
    Jr w ns AB (j + 1) v W1 := by
  obtain ⟨hB, hat, os, ho1, ho2, ho3, ho4⟩ := hJ
  have hAl := (Array.getElem?_eq_some_iff.1 hat).1
  refine ⟨hB.trans (hb.mono hB.size), ?_, os, by omega, by rw [h2]; exact ho2, own_below ho3 hb, fun x hx => own_below (ho4 x hx) hb⟩
  rw [hb.block AB hAl, hat]
  have : atL ns ns.length j = atL ns ns.length (j + 1) := by
    unfold atL
    rw [h1, show ns.length - j = (ns.length - (j + 1)) + 1 by omega, List.replicate_succ, List.append_assoc]; rfl
  unfold atC
  rw [this]
/-- Rows of ints but one stay. -/
def KeepI (AB : Nat) (W W' : World) : Prop := ∀ (b : Nat) (cs : Array Value), b ≠ AB → W.heap[b]? = some (.cells cs 3 (0, 0)) → W'.heap[b]? = some (.cells cs 3 (0, 0))
theorem ints_keepI {AB B : Nat} {w w' : World} {v : Value} {l : List Int} (h : Ints B w v l) (hB : AB < B) (hk : KeepI AB w w') : Ints B w' v l :=
  ⟨h.1, h.2.elim .inl fun ⟨g, cap, cur, e, hg, hh, r⟩ => .inr ⟨g, cap, cur, e, hg, hk _ _ (by omega) hh, r⟩⟩
theorem own_other {W : World} {B : Nat} {e : TypeId} {size : Nat} {v : Value} {n : Nat} {xs : List Value} {X : Nat} {cs : Array Value} {t : TypeId} (h : W.ownsRow B e size v n xs) (hX : W.heap[X]? = some (.cells cs t (0, 0))) (ht : t ≠ e) : v.ownBlock ≠ some X := fun e1 => by
  obtain ⟨c, fz, hh⟩ := Lib.ownsRow_kind h X e1
  rw [hX] at hh; injection hh with hh; injection hh with _ hh; exact ht hh
theorem jr_fin {w W1 W w7 : World} {ns : List Nd} {AB j m : Nat} {u7 : Value} {os : List Nd} {cs cs2 : Array Value} {nd : Nd} {l : List Int} {pk : Option Addr} {ck gg cap : Nat}
    (hB : Below w.heap.size w W1) (hat : W1.heap[AB]? = some (.cells (atC ns ns.length j) 3 (0, 0))) (ho1 : os.length ≤ j) (ho2 : os.map strip = (labS ns j).2) (ho3 : W1.ownsRow (AB + 1) 30 4 u7 os.length (flatN os)) (ho4 : ∀ x ∈ os, Ints (AB + 1) W1 (.slice x.kp x.kids.length x.kcap) x.kids)
    (hj : j < ns.length) (hA : w.heap.size ≤ AB) (hm : m = os.length) (hput : labS ns (j + 1) = ((labS ns j).1 ++ [((labS ns j).2.length : Int)], (labS ns j).2 ++ [(nd.kind, nd.text, l, nd.place)]))
    (hW : Below W1.heap.size W1 W) (hX : W.heap[W1.heap.size]? = some (.cells cs 30 (0, 0))) (hI : Ints (AB + 1) W (.slice pk l.length ck) l)
    (hg0 : ((((W.setCell ⟨AB, j, none⟩ (.int .i64 (m : Int))).setCell ⟨W1.heap.size, 2, none⟩ (.slice pk l.length ck)).alloc (.cells cs2 30 (0, 0)))).grownBy w7 u7.ownBlock)
    (hown : w7.ownsRow (AB + 1) 30 4 (.slice (some ⟨gg, 0, none⟩) (m + 1) cap) (m + 1) (flatN os ++ [.int .i64 nd.kind, .string nd.text, .slice pk l.length ck, .int .i64 nd.place])) :
    Jr w ns AB (j + 1) (.slice (some ⟨gg, 0, none⟩) (m + 1) cap) w7 := by
  have hAl := (Array.getElem?_eq_some_iff.1 hat).1
  have hXl := (Array.getElem?_eq_some_iff.1 hX).1
  have hol : os.length = (labS ns j).2.length := by rw [← ho2, List.length_map]
  have hrowne : ∀ (b : Nat) (c : Array Value) (t : TypeId), W1.heap[b]? = some (.cells c t (0, 0)) → t ≠ 30 → u7.ownBlock ≠ some b := fun b c t h ht => own_other ho3 h ht
  have hrowlt : ∀ g, u7.ownBlock = some g → AB + 1 ≤ g ∧ g < W1.heap.size := fun g hg => by
    obtain ⟨c, fz, hh⟩ := Lib.ownsRow_kind ho3 g hg
    refine ⟨?_, (Array.getElem?_eq_some_iff.1 hh).1⟩
    rcases ho3.2 with ⟨e1, _⟩ | ⟨g', c', _, e1, hle, _⟩
    · rw [e1] at hg; cases hg
    · rw [e1] at hg; cases hg; exact hle
  have hsz : ((W.setCell ⟨AB, j, none⟩ (.int .i64 (m : Int))).setCell ⟨W1.heap.size, 2, none⟩ (.slice pk l.length ck)).heap.size = W.heap.size := by simp [World.setCell]
  have hWs := hW.size
  have hKI : KeepI AB W w7 := fun b c hb h => by
    have hbl := (Array.getElem?_eq_some_iff.1 h).1
    have hbX : b ≠ W1.heap.size := fun e => by subst e; rw [hX] at h; injection h with h; injection h with _ h; exact absurd h (by decide)
    rw [hg0.block b (by rw [World.size_alloc, hsz]; omega) (fun e => ?_), Below.heap_alloc _ _ _ (by rw [hsz]; exact hbl), Below.heap_setCell _ _ _ _ hbX, Below.heap_setCell _ _ _ _ hb]
    · exact h
    · obtain ⟨g1, g2⟩ := hrowlt b e.symm
      have h1 : W1.heap[b]? = some (.cells c 3 (0, 0)) := by rw [← hW.block b g2]; exact h
      exact hrowne b c 3 h1 (by decide) e.symm
  refine ⟨?_, ?_, os ++ [⟨nd.kind, nd.text, pk, ck, l, nd.place⟩], by simp; omega, ?_, ?_, fun x hx => ?_⟩
  · refine Below.grown ((((hB.trans (hW.mono hB.size)).setCell (p := ⟨AB, j, none⟩) hA _).setCell (p := ⟨W1.heap.size, 2, none⟩) hB.size _).alloc (by rw [hsz]; have := hB.size; omega) _) hg0 (by rw [World.size_alloc, hsz]; have := hB.size; omega) (fun g hg => by have := (hrowlt g hg).1; omega)
  · rw [hg0.block AB (by rw [World.size_alloc, hsz]; omega) (fun e => hrowne AB _ 3 hat (by decide) e.symm), Below.heap_alloc _ _ _ (by rw [hsz]; omega), Below.heap_setCell _ _ _ _ (by show AB ≠ W1.heap.size; omega)]
    rw [← atC_set (v := (m : Int)) rfl hj (by rw [hput, hm, hol])]
    exact cells_set ((hW.block AB hAl).trans hat) j _
  · rw [List.map_append, ho2, hput]; rfl
  · rw [List.length_append, flatN_snoc]
    subst hm
    exact hown
  · rcases List.mem_append.1 hx with hx | hx
    · exact ints_keepI (own_below (ho4 x hx) hW) (by omega) hKI
    · obtain rfl := List.mem_singleton.1 hx
      exact ints_keepI hI (by omega) hKI
set_option maxRecDepth 100000 in
set_option maxHeartbeats 4000000 in
theorem rlabels_any (p : Option Addr) (c : Nat) (ns : List Nd) (w : World) (ha : NodesAt w p ns) (hs : Small ns) (hc : Capped ns) (hl0 : Lib0 w) :
    Calls Tryz.prog 13 #[.slice p ns.length c] w fun e w' => Below w.heap.size w w' ∧ ∃ v n, e = .returned (.tuple #[v, .int .i64 n]) ∧ n = (checkS ns).2 ∧
      ((n ≠ 0 ∧ v = .slice none 0 0) ∨ (n = 0 ∧ Sound ns ∧ ∃ B os, w.heap.size ≤ B ∧ os.map strip = (labS ns ns.length).2 ∧ w'.ownsRow B 30 4 v os.length (flatN os) ∧ ∀ x ∈ os, Ints B w' (.slice x.kp x.kids.length x.kcap) x.kids)) := by
  obtain ⟨n1, hn1⟩ : ∃ n1, (checkS ns).1 = n1 := ⟨_, rfl⟩
  obtain ⟨n2, hn2⟩ : ∃ n2, (checkS ns).2 = n2 := ⟨_, rfl⟩
  have F1 : Hid (∀ w', Below w.heap.size w w' → Calls Tryz.prog 24 #[.slice p ns.length c] w' (ErrPost n1 n2 w')) := hid fun w' h => by have := rcheck_any w' p c ns hs hc (NodesAt.later ha h) (hl0.later h); rw [hn1, hn2] at this; exact this
  obtain ⟨iI, hiI, zI0, zI1, zI2⟩ := info_parts Tryz.infoI
  obtain ⟨i0, hi0, hz0, hz1, hz2⟩ := info_parts Tryz.infoN
  obtain ⟨L, hL⟩ : ∃ L, L = ns.length := ⟨_, rfl⟩
  rw [← hL] at F1 ⊢
  have hL5 : L ≤ 5000 := by have := hs.1; omega
  have HL := hid hL
  have Ha := hid ha
  have Hs := hid hs
  have Hn2 := hid hn2
  clear hL ha hl0 hs hc hn1 hn2
  by_cases e0 : n2 = 0
  · subst e0
    have Hsd := hid (sound_of Hn2.out)
    go_enter Tryz.func13, Tryz.ntmps13
    go_wp2_with (first
      | (go_at_call 24; ((with_reducible refine (F1.out _ (by repeat (first | exact Below.refl _ _ | refine bG ?_ _ | refine bA ?_ _ | refine bD ?_ | refine bN ?_ _))).mono ?_)); rintro e w' ⟨rfl, hb⟩; obtain ⟨g1, rfl⟩ := bout hb; clear hb)
      | (refine wpList_make_full _ rfl _ _ 28 rfl (w.heap.size + g1.size) 3 iI (.int .i64 0) 1 Tryz.underlying28 hiI zI0 zI1 .i64 .i64 _ _ L rfl rfl (by go_num) (by go_num) ?_ ?_ ?_ ?_))
    · rw [zI2]; omega
    · unfold maxLen; omega
    · simp
    intro w1 hO hG
    obtain ⟨g2, rfl⟩ := make_out hO hG (by simp)
    clear hO hG
    obtain ⟨AB, hAB⟩ : ∃ AB, w.heap.size + g1.size = AB := ⟨_, rfl⟩
    have hmade : (madeCells #[Value.int .i64 0] L) = atC ns L 0 := by
      apply Array.toList_inj.1
      rw [toList_madeCells_one]
      simp [atC, atL, labS]
    rw [hmade]
    obtain ⟨W0, hW0⟩ : ∃ W0, grow ((grow w g1).alloc (.cells (atC ns L 0).toList.toArray 3)) g2 = W0 := ⟨_, rfl⟩
    rw [hW0, hAB]
    have hJ0 : Hid (Jr w ns AB 0 (.slice none 0 0) W0) := hid (by
      refine ⟨?_, ?_, [], Nat.le_refl _, rfl, ⟨by simp [flatN], .inl ⟨rfl, by simp⟩⟩, (fun x hx => nomatch hx)⟩
      · rw [← hW0]; repeat (first | exact Below.refl _ _ | refine bG ?_ _ | refine bA ?_ _ | refine bD ?_ | refine bN ?_ _)
      · rw [← hW0, heap_grow _ _ _ (by simp; omega), ← HL.out]
        have h1 := heap_alloc_new (grow w g1) (.cells (atC ns L 0).toList.toArray 3)
        have h2 : (grow w g1).heap.size = AB := by simp; omega
        rw [h2] at h1
        simpa using h1)
    have hABw : w.heap.size ≤ AB := by omega
    clear hmade hiI zI0 zI1 zI2 hW0 hAB
    go_wp2
    go_loopw [7, 26] (fun ov iv wr => ∃ (j : Nat), j ≤ L ∧ iv = .int .i64 j ∧ Hid (Jr w ns AB j ov wr)) (fun _ iv _ => L - (intOf iv).toNat)
    case atStart => exact ⟨0, Nat.zero_le _, rfl, hJ0⟩
    case round =>
      obtain ⟨j, hj, rfl, hJ⟩ := hrel
      by_cases hlt : j < L
      · have hjn : j < ns.length := by have := HL.out; omega
        obtain ⟨hB, hat, os, ho1, ho2, ho3, ho4⟩ := hJ.out
        obtain ⟨b, o, rfl, hbl, hnz, hfine, c0, c1, c2, c3⟩ := nd_at (NodesAt.later Ha.out hB) hjn
        have hABl := (Array.getElem?_eq_some_iff.1 hat).1
        have hsn := Hsd.out j _ hnz
        have j0 : (0 : Int) ≤ (j : Int) := by omega
        have j1 : (j : Int) < (L : Int) := by omega
        have fAB : wr.frozen? ⟨AB, j, none⟩ = false := by simp [World.frozen?, hat]
        have hget : ∀ k : Nat, k < j → wr.cell? ⟨AB, k, none⟩ = some (.int .i64 ((labS ns j).1.getD k 0)) := fun k hk => by
          have h1 := atC_get (ns := ns) (L := ns.length) (j := j) (k := k) rfl (by omega) (by omega)
          rw [atL_get rfl (by omega) hk] at h1
          simpa [World.cell?, hat] using h1
        have cAB : ∃ y, wr.cell? ⟨AB, j, none⟩ = some y := ⟨_, by simp [World.cell?, hat]; exact atC_get rfl (by omega) (by omega)⟩
        obtain ⟨y, cAB⟩ := cAB
        by_cases h36 : ns[j].kind = 36
        · obtain ⟨bk, ok, hkp, hbk, ck⟩ := kid_at hfine (j := 0) (hsn.2.2.2 h36)
          have h0 := hsn.2.2.2 h36
          have hum : ns[j].kids.getD 0 0 ∈ ns[j].kids := by rw [List.getD, List.getElem?_eq_getElem h0]; exact List.getElem_mem h0
          obtain ⟨hu0, huz⟩ := hsn.1 _ hum
          obtain ⟨u, hu⟩ : ∃ u : Nat, ns[j].kids.getD 0 0 = (u : Int) := ⟨(ns[j].kids.getD 0 0).toNat, by omega⟩
          have hfin : Hid (Jr w ns AB (j + 1) u7 (wr.setCell ⟨AB, j, none⟩ (.int .i64 ((labS ns j).1.getD u 0)))) := hid <|
            jr_at hJ.out (Below.refl _ _) hjn hABw _ (by rw [labS_36 hnz h36, hu, Int.toNat_natCast]) (by rw [labS_36 hnz h36])
          have cu := hget u (by omega)
          have ck0 : wr.cell? ⟨bk, ok, none⟩ = some (.int .i64 (u : Int)) := by rw [hu] at ck; exact ck
          have q0 : (0 : Int) < (ns[j].kids.length : Int) := by omega
          have q2 : ¬ (ns[j].kids.length : Int) ≤ 0 := by omega
          have q3 : ns[j].kids.length ≠ 0 := by omega
          have u0 : (0 : Int) ≤ (u : Int) := by omega
          have u1 : (u : Int) < (L : Int) := by omega
          rw [h36] at c0
          rw [hkp] at c2
          generalize (labS ns j).1.getD u 0 = val at *
          clear hget hat ho1 ho2 ho3 ho4 hnz hfine hsn hum ck
          go_wp2
          go_roundw
          case rel => exact ⟨j + 1, by omega, by go_num, hid (hfin.out.later (bA (Below.refl _ _) _))⟩
          case measure => simp [intOf]; omega
        · by_cases h2 : ns[j].kind = 2
          · have hfin : Hid (∀ W1, Below wr.heap.size wr W1 → Jr w ns AB (j + 1) u7 W1) := hid fun W1 hb =>
              jr_skip hJ.out hb hjn (by rw [labS_2 hnz h2]) (by rw [labS_2 hnz h2])
            rw [h2] at c0
            clear hget hat ho1 ho2 ho3 ho4 hnz hfine hsn h36 h2
            go_wp2
            go_roundw
            case rel => exact ⟨j + 1, by omega, by go_num, hid (hfin.out _ (by repeat (first | exact Below.refl _ _ | refine bG ?_ _ | refine bA ?_ _ | refine bD ?_ | refine bN ?_ _)))⟩
            case measure => simp [intOf]; omega
          · have hk36 : (ns[j].kind == 36) = false := by simp [h36]
            have hk2 : (ns[j].kind == 2) = false := by simp [h2]
            have hsm := Hs.out.2 ns[j] (List.getElem_mem hjn)
            have Hput := hid (labS_put hnz h36 h2)
            obtain ⟨nd, hnd⟩ : ∃ nd, nd = ns[j] := ⟨_, rfl⟩
            rw [← hnd] at c0 c1 c2 c3 hk36 hk2 hsm hfine hsn Hput
            obtain ⟨A, hA⟩ : ∃ A, A = (labS ns j).1 := ⟨_, rfl⟩
            rw [← hA] at hget Hput
            have HA := hid hA
            obtain ⟨kd, tx, kp, kc, kids, pl⟩ := nd
            simp only at c0 c1 c2 c3 hk36 hk2 hsm hfine hsn Hput
            obtain ⟨q, hq⟩ : ∃ q, q = kids.length := ⟨_, rfl⟩
            have hq1 : (q : Int) ≤ 20000 := by have := hsm.1; omega
            rw [← hq] at c2
            have Hq := hid hq
            have Hsn := hid hsn
            have Hfine := hid hfine
            have Hget := hid hget
            have Hat := hid (show Below w.heap.size w wr ∧ wr.heap[AB]? = some (.cells (atC ns ns.length j) 3 (0, 0)) ∧ os.length ≤ j ∧ os.map strip = (labS ns j).2 ∧ wr.ownsRow (AB + 1) 30 4 u7 os.length (flatN os) ∧ ∀ x ∈ os, Ints (AB + 1) wr (.slice x.kp x.kids.length x.kcap) x.kids from ⟨hB, hat, ho1, ho2, ho3, ho4⟩)
            obtain ⟨W1, hW1⟩ : ∃ W1, W1 = wr := ⟨_, rfl⟩
            subst hW1
            clear hget hat ho1 ho2 ho3 ho4 hnz hfine hsn h36 h2 hnd hA hq hsm hB
            go_wp2
            go_loopw [10, 50] (fun kv iv wr => ∃ (i : Nat) (l : List Int), i ≤ q ∧ iv = .int .i64 i ∧ Hid (l = kidsL ns A (kids.take i) ∧ Ints (W1.heap.size + 1) wr kv l ∧ Below W1.heap.size W1 wr ∧ wr.heap[W1.heap.size]? = some (.cells #[.int .i64 kd, .string tx, .slice kp q kc, .int .i64 pl] 30 (0, 0)))) (fun _ iv _ => q - (intOf iv).toNat)
            case atStart => exact ⟨0, [], Nat.zero_le _, rfl, hid ⟨by simp [kidsL], ⟨by simp, .inl ⟨rfl, by simp⟩⟩, bA (Below.refl _ _) _, heap_alloc_new _ _⟩⟩
            case round =>
              obtain ⟨i, l, hi, rfl, hI⟩ := hrel
              have hABr : AB < W1.heap.size := hABl
              have hX := hI.out.2.2.2
              have hXl : W1.heap.size < wr.heap.size := (Array.getElem?_eq_some_iff.1 hX).1
              by_cases hiq : i < q
              · have hik : i < kids.length := by have := Hq.out; omega
                have Htk := hid (show kids.take (i + 1) = kids.take i ++ [kids[i]] by rw [List.take_add_one, List.getElem?_eq_getElem hik]; rfl)
                rcases Hfine.out.2.2.2.2.2 with ix | ⟨bk, ok, hkp, hbk, hc⟩
                · simp at ix; rw [ix] at hik; simp at hik
                simp only at hkp hc
                subst hkp
                have ck := cell_later hI.out.2.2.1 (hc i hik)
                obtain ⟨hz0, hz1⟩ := Hsn.out.1 kids[i] (List.getElem_mem hik)
                obtain ⟨z, hz⟩ : ∃ z : Nat, kids[i] = (z : Int) := ⟨kids[i].toNat, by omega⟩
                rw [hz] at Htk ck hz0 hz1
                have hzn : z < ns.length := by omega
                obtain ⟨b', o', hp', _, hnz, _, d0, _, _, _⟩ := nd_at (NodesAt.later Ha.out (Hat.out.1.trans (hI.out.2.2.1.mono Hat.out.1.size))) hzn
                cases hp'
                have hkz : kindAt ns (z : Int) = ns[z].kind := by unfold kindAt; rw [Int.toNat_natCast, hnz]
                have cz := cell_later hI.out.2.2.1 (Hget.out z (by omega))
                have z1 : (z : Int) < (L : Int) := by omega
                have i0 : (0 : Int) ≤ (i : Int) := by omega
                have i1 : (i : Int) < (q : Int) := by omega
                clear hc hnz hz
                have hll : l.length ≤ i := by
                  have h1 := congrArg List.length hI.out.1
                  have h2 : (kidsL ns A (kids.take i)).length ≤ (kids.take i).length := by unfold kidsL; rw [List.length_map]; exact List.length_filter_le _ _
                  rw [List.length_take] at h2; omega
                by_cases hk2 : ns[z].kind = 2
                · have hne : (ns[z].kind != 2) = false := by simp [hk2]
                  have Hne := hid (show kidsL ns A (kids.take (i + 1)) = kidsL ns A (kids.take i) by rw [Htk.out]; unfold kidsL; rw [List.filter_append, List.filter_cons, hkz, hne]; simp)
                  clear hkz
                  go_wp2
                  go_roundw
                  case rel => exact ⟨i + 1, l, by omega, by go_num, hid ⟨by rw [Hne.out]; exact hI.out.1, hI.out.2⟩⟩
                  case measure => simp [intOf]; omega
                · have hne : (ns[z].kind != 2) = true := by simp [hk2]
                  have Hne := hid (show kidsL ns A (kids.take (i + 1)) = kidsL ns A (kids.take i) ++ [A.getD z 0] by rw [Htk.out]; unfold kidsL; rw [List.filter_append, List.filter_cons, hkz, hne]; simp)
                  clear hkz
                  generalize A.getD z 0 = av at *
                  go_wp2_with (first
                    | (at_builtin; go_loud (refine wpList_append_int rfl _ _ rfl (W1.heap.size + 1) u10 l av wr.heap.size 1 rfl ?aown rfl ?acell ?alen ?abase ?arest)))
                  case aown => exact own_below hI.out.2.1 (bA (Below.refl _ _) _)
                  case acell => simp [go_sem]
                  case alen => omega
                  case abase => simp; omega
                  case arest =>
                    intro v' w4 h1 h2 h3
                    have hrow : ∀ g, u10.ownBlock = some g → W1.heap.size + 1 ≤ g := fun g hg => hI.out.2.1.2.elim (fun h => by rw [h.1] at hg; cases hg) fun ⟨g', _, _, e, hle, _⟩ => by rw [e] at hg; cases hg; exact hle
                    have hb4 : Below W1.heap.size W1 w4 := Below.grown (bA hI.out.2.2.1 _) h2 (by simp; omega) fun g hg => by have := hrow g hg; omega
                    have hX4 : w4.heap[W1.heap.size]? = some (.cells #[.int .i64 kd, .string tx, .slice (some ⟨bk, ok, none⟩) q kc, .int .i64 pl] 30 (0, 0)) := by
                      rw [h2.block W1.heap.size (by simp; omega) (fun e => by have := hrow _ e.symm; omega), Below.heap_alloc _ _ _ hXl]; exact hX
                    have HI4 := hid (show l ++ [av] = kidsL ns A (kids.take (i + 1)) ∧ Ints (W1.heap.size + 1) w4 v' (l ++ [av]) ∧ Below W1.heap.size W1 w4 ∧ w4.heap[W1.heap.size]? = some (.cells #[.int .i64 kd, .string tx, .slice (some ⟨bk, ok, none⟩) q kc, .int .i64 pl] 30 (0, 0)) from ⟨by rw [Hne.out, hI.out.1], h1, hb4, hX4⟩)
                    clear hrow hb4 hX4 h1 h2 h3 hX hXl ck cz d0
                    go_wp2
                    go_roundw
                    case rel => exact ⟨i + 1, l ++ [av], by omega, by go_num, HI4⟩
                    case measure => simp [intOf]; omega
              · obtain rfl : i = q := by omega
                have hll : l = kidsL ns A kids := by rw [hI.out.1, List.take_of_length_le (by have := Hq.out; omega)]
                have hln : l.length ≤ i := by
                  have h2 : (kidsL ns A kids).length ≤ kids.length := by unfold kidsL; rw [List.length_map]; exact List.length_filter_le _ _
                  have := Hq.out
                  rw [hll]; omega
                obtain ⟨pk, ck, hkv, _⟩ := hI.out.2.1.out
                obtain ⟨m, hm⟩ : ∃ m, m = os.length := ⟨_, rfl⟩
                obtain ⟨vp, vc, hv⟩ : ∃ vp vc, u7 = .slice vp m vc := by
                  rcases Hat.out.2.2.2.2.1.2 with ⟨e1, e2⟩ | ⟨g, cap, cur, e1, _⟩
                  · exact ⟨none, 0, by rw [e1, hm, e2]⟩
                  · exact ⟨_, _, by rw [e1, hm]⟩
                have hmj : m ≤ j := by have := Hat.out.2.2.1; omega
                subst hv
                subst hkv
                obtain ⟨lk, hlk⟩ : ∃ lk, lk = l.length := ⟨_, rfl⟩
                have hOr : wr.ownsRow (AB + 1) 30 4 (.slice vp m vc) m (flatN os) := by have := own_below Hat.out.2.2.2.2.1 hI.out.2.2.1; rw [← hm] at this; exact this
                have hneX : (Value.slice vp m vc).ownBlock ≠ some W1.heap.size := fun e => by
                  obtain ⟨c, fz, hh⟩ := Lib.ownsRow_kind Hat.out.2.2.2.2.1 _ e
                  have := (Array.getElem?_eq_some_iff.1 hh).1
                  omega
                have hO5 : ((wr.setCell ⟨AB, j, none⟩ (.int .i64 (m : Int))).setCell ⟨W1.heap.size, 2, none⟩ (.slice pk l.length ck)).ownsRow (AB + 1) 30 4 (.slice vp m vc) m (flatN os) :=
                  ownsRow_setCell_other (ownsRow_setCell_below hOr (by show AB < AB + 1; omega) _) hneX _
                have cA : ∃ y, wr.cell? ⟨AB, j, none⟩ = some y := ⟨_, cell_later hI.out.2.2.1 cAB⟩
                obtain ⟨y2, cA⟩ := cA
                have fA : wr.frozen? ⟨AB, j, none⟩ = false := (World.frozen?_of_block (hI.out.2.2.1.block AB hABr)).trans fAB
                have cX0 : wr.cell? ⟨W1.heap.size, 0, none⟩ = some (.int .i64 kd) := by simp [World.cell?, hX]
                have cX1 : wr.cell? ⟨W1.heap.size, 1, none⟩ = some (.string tx) := by simp [World.cell?, hX]
                have cX2 : wr.cell? ⟨W1.heap.size, 2, none⟩ = some (.slice kp i kc) := by simp [World.cell?, hX]
                have cX3 : wr.cell? ⟨W1.heap.size, 3, none⟩ = some (.int .i64 pl) := by simp [World.cell?, hX]
                have fX2 : wr.frozen? ⟨W1.heap.size, 2, none⟩ = false := by simp [World.frozen?, hX]
                have hAX : AB ≠ W1.heap.size := by omega
                have HI := hid hI
                have Hm := hid hm
                have Hll := hid hll
                clear hX hI hOr hm hll
                have hsz5 : ((wr.setCell ⟨AB, j, none⟩ (.int .i64 (m : Int))).setCell ⟨W1.heap.size, 2, none⟩ (.slice pk l.length ck)).heap.size = wr.heap.size := by simp [World.setCell]
                have hblk := heap_alloc_new ((wr.setCell ⟨AB, j, none⟩ (.int .i64 (m : Int))).setCell ⟨W1.heap.size, 2, none⟩ (.slice pk l.length ck)) (.cells #[.int .i64 kd, .string tx, .slice pk l.length ck, .int .i64 pl] 30)
                rw [hsz5] at hblk
                have hnews := hid (World.news_of_block hblk)
                have hO6 := hid (hO5.alloc (.cells #[.int .i64 kd, .string tx, .slice pk l.length ck, .int .i64 pl] 30))
                have hB6 : AB + 1 ≤ (((wr.setCell ⟨AB, j, none⟩ (.int .i64 (m : Int))).setCell ⟨W1.heap.size, 2, none⟩ (.slice pk l.length ck)).alloc (.cells #[.int .i64 kd, .string tx, .slice pk l.length ck, .int .i64 pl] 30)).heap.size := by rw [World.size_alloc, hsz5]; omega
                have hS6 : (((wr.setCell ⟨AB, j, none⟩ (.int .i64 (m : Int))).setCell ⟨W1.heap.size, 2, none⟩ (.slice pk l.length ck)).alloc (.cells #[.int .i64 kd, .string tx, .slice pk l.length ck, .int .i64 pl] 30)).heap.size = wr.heap.size + 1 := by rw [World.size_alloc, hsz5]
                have HB6 := hid hB6
                have HS6 := hid hS6
                clear hblk hsz5 hB6 hS6 hO5
                go_wp2_with (at_builtin; (refine wpList_append_lies _ rfl _ _ _ rfl (AB + 1) 30 i0 _ 4 56 Tryz.underlying22 hi0 hz0 hz1 hz2 rfl (by omega) (.slice vp m vc) m (flatN os) rfl hO6.out ⟨wr.heap.size, 0, none⟩ 1 1 [.int .i64 kd, .string tx, .slice pk l.length ck, .int .i64 pl] (by rfl) (by rfl) hnews.out (by simp [Value.oneCell']) (by omega) (by unfold maxLen; omega) (by omega) HB6.out (wr.heap.size + 1) HS6.out ?_); intro gg cap w7 hown7 hgrow hatx hlt7; have Hg7 := hid hgrow; have Ho7 := hid hown7; clear hgrow hown7 hatx hlt7)
                have Hfin := hid (jr_fin (nd := ⟨kd, tx, kp, kc, kids, pl⟩) Hat.out.1 Hat.out.2.1 Hat.out.2.2.1 Hat.out.2.2.2.1 Hat.out.2.2.2.2.1 Hat.out.2.2.2.2.2 hjn hABw Hm.out (by rw [Hll.out, ← HA.out]; exact Hput.out) HI.out.2.2.1 HI.out.2.2.2 (ints_mono HI.out.2.1 (by omega)) Hg7.out Ho7.out)
                clear Hg7 Ho7
                go_wp2
                go_roundw
                case rel => exact ⟨j + 1, by omega, by go_num, Hfin⟩
                case measure => simp [intOf]; omega
      · obtain rfl : j = L := by omega
        obtain ⟨hB, hat, os, ho1, ho2, ho3, ho4⟩ := hJ.out
        have Hfin := hid (show Below w.heap.size w wr ∧ os.map strip = (labS ns j).2 ∧ wr.ownsRow (AB + 1) 30 4 u7 os.length (flatN os) ∧ ∀ x ∈ os, Ints (AB + 1) wr (.slice x.kp x.kids.length x.kcap) x.kids from ⟨hB, ho2, ho3, ho4⟩)
        clear hB hat ho1 ho2 ho3 ho4
        go_wp2
        go_ret2
        exact ⟨Hfin.out.1, _, _, rfl, Hn2.out.symm, .inr ⟨rfl, Hsd.out, AB + 1, os, by omega, Hfin.out.2⟩⟩
  · have hne : (n2 != 0) = true := by simp [e0]
    have He := hid e0
    clear e0
    go_enter Tryz.func13, Tryz.ntmps13
    go_wp2_with (first
      | (go_at_call 24; ((with_reducible refine (F1.out _ (by repeat (first | exact Below.refl _ _ | refine bG ?_ _ | refine bA ?_ _ | refine bD ?_ | refine bN ?_ _))).mono ?_)); rintro e w' ⟨rfl, hb⟩; obtain ⟨g1, rfl⟩ := bout hb; clear hb))
    go_ret2
    exact ⟨by repeat (first | exact Below.refl _ _ | refine bG ?_ _ | refine bA ?_ _ | refine bD ?_ | refine bN ?_ _), _, _, rfl, Hn2.out.symm, .inl ⟨He.out, rfl⟩⟩
end Go.Proofs.YtbgjanmheagilaaGreatDoor

/- erase.Free and the reference's, walked. Conditions: the sizes that a program may hold. -/
namespace Go.Proofs.YtbgjanmheagilaaGreatDoor
open Go Go.RowKit Go.Nodes
set_option linter.unusedVariables false
set_option linter.unusedSimpArgs false
def asksB (x : Nd) : Bool := if x.kind = 36 then true else if x.kind = 2 then !((x.text.extract 2 x.text.size).toList == [48]) else false
def Chan2 (ns : List Nd) : Prop := ∀ x ∈ ns, x.kind = 2 → 2 ≤ x.text.size
theorem chan2_of {ns : List Nd} (h : (checkS ns).2 = 0) : Chan2 ns := by
  unfold checkS at h
  split at h
  · simp at h
  · rename_i v hs
    intro x hx hk
    obtain ⟨i, hi, rfl⟩ := List.getElem_of_mem hx
    obtain ⟨h1, h2⟩ := scan_sound ns ns 0 _ v rfl hs i ns[i] (Nat.zero_le _) (List.getElem?_eq_getElem hi)
    unfold okB at h2
    simp only [Bool.and_eq_true, decide_eq_true_eq] at h2
    have h3 := h2.1.2
    rw [hk] at h3
    have h4 : chanS ns[i].text.data.toList = true := by simpa [textS] using h3
    have h5 : ∀ l : List UInt8, chanS l = true → 2 ≤ l.length := fun l h => by
      unfold chanS at h
      split at h
      · simp
      · cases h
    have := h5 _ h4
    simpa using this
set_option maxRecDepth 100000 in
set_option maxHeartbeats 1000000 in
theorem asks_any (x : Nd) (hx : x.kind = 2 → 2 ≤ x.text.size) (hs : x.text.size ≤ 20000) (q : Nat) (w : World) :
    Calls Tryz.prog 34 #[.agg #[.int .i64 x.kind, .string x.text, .slice x.kp q x.kcap, .int .i64 x.place]] w fun e w' => e = .returned (.bool (asksB x)) ∧ Below w.heap.size w w' := by
  unfold asksB
  by_cases h36 : x.kind = 36
  · rw [if_pos h36, h36]
    clear hx h36
    generalize x.text = t at *
    go_enter Tryz.func34, Tryz.ntmps34
    go_wp2
    go_ret
    exact ⟨rfl, bA (Below.refl _ _) _⟩
  · rw [if_neg h36]
    by_cases h2 : x.kind = 2
    · have hsz := hx h2
      have h2i : (2 : Int) ≤ (x.text.size : Int) := by omega
      rw [if_pos h2, h2]
      clear hx h36 h2
      generalize x.text = t at *
      go_enter Tryz.func34, Tryz.ntmps34
      go_wp2
      go_ret
      exact ⟨rfl, bA (Below.refl _ _) _⟩
    · rw [if_neg h2]
      have k36 : (x.kind == 36) = false := by simp [h36]
      have k2 : (x.kind == 2) = false := by simp [h2]
      clear hx h36 h2
      generalize x.kind = kd at *
      generalize x.text = t at *
      go_enter Tryz.func34, Tryz.ntmps34
      go_wp2
      go_ret
      exact ⟨rfl, bA (Below.refl _ _) _⟩
theorem any_take_succ (ns : List Nd) (f : Nd → Bool) (j : Nat) (h : j < ns.length) : (ns.take (j + 1)).any f = ((ns.take j).any f || f ns[j]) := by
  rw [List.take_add_one, List.getElem?_eq_getElem h, List.any_append]; simp
set_option maxRecDepth 100000 in
set_option maxHeartbeats 2000000 in
theorem index_any (p : Option Addr) (c : Nat) (ns : List Nd) (w : World) (ha : NodesAt w p ns) (hs : Small ns) (hch : Chan2 ns) :
    Calls Tryz.prog 64 #[.slice p ns.length c, .func (.func 34) #[] #[]] w fun e w' => (∃ n : Int, e = .returned (.int .i64 n) ∧ decide (0 ≤ n) = ns.any asksB) ∧ Below w.heap.size w w' := by
  obtain ⟨L, hL⟩ : ∃ L, L = ns.length := ⟨_, rfl⟩
  rw [← hL]
  have hL5 : L ≤ 5000 := by have := hs.1; omega
  have HL := hid hL
  have Ha := hid ha
  have HF : Hid (∀ (j : Nat) (h : j < ns.length) W, Calls Tryz.prog 34 #[.agg #[.int .i64 ns[j].kind, .string ns[j].text, .slice ns[j].kp ns[j].kids.length ns[j].kcap, .int .i64 ns[j].place]] W fun e w' => e = .returned (.bool (asksB ns[j])) ∧ Below W.heap.size W w') :=
    hid fun j h W => asks_any ns[j] (hch _ (List.getElem_mem h)) (hs.2 _ (List.getElem_mem h)).2 _ W
  clear ha hs hch hL
  go_enter Tryz.func64, Tryz.ntmps64
  go_wp2
  go_loopw [8] (fun iv wr => ∃ j : Nat, j ≤ L ∧ iv = .int .i64 j ∧ Hid ((ns.take j).any asksB = false) ∧ Below w.heap.size w wr) (fun iv _ => L - (intOf iv).toNat)
  case atStart => exact ⟨0, Nat.zero_le _, rfl, hid (by simp), Below.refl _ _⟩
  case round =>
    obtain ⟨j, hj, rfl, hn, hB⟩ := hrel
    by_cases hlt : j < L
    · have hjn : j < ns.length := by have := HL.out; omega
      obtain ⟨b, o, rfl, hbl, hnz, hfine, c0, c1, c2, c3⟩ := nd_at (NodesAt.later Ha.out hB) hjn
      have hf := hid (HF.out j hjn)
      have hsucc := any_take_succ ns asksB j hjn
      rw [hn.out, Bool.false_or] at hsucc
      have j0 : (0 : Int) ≤ (j : Int) := by omega
      have j1 : (j : Int) < (L : Int) := by omega
      have HB := hid hB
      have Hall : Hid (asksB ns[j] = true → ns.any asksB = true) := hid fun h => List.any_eq_true.2 ⟨_, List.getElem_mem hjn, h⟩
      clear hnz hfine HF hB
      generalize asksB ns[j] = r at *
      generalize ns[j].kind = kd at *
      generalize ns[j].text = tx at *
      generalize ns[j].kp = kp at *
      generalize ns[j].kids.length = q at *
      generalize ns[j].kcap = kc at *
      generalize ns[j].place = pl at *
      have Hs := hid hsucc
      clear hsucc
      cases r with
      | true =>
        have hall := hid (Hall.out rfl)
        clear Hall
        go_wp2_with (go_at_call 34; ((with_reducible refine (hf.out _).mono ?_); rintro e w' ⟨rfl, hb⟩; obtain ⟨g, rfl⟩ := bout hb; clear hb))
        go_ret
        exact ⟨⟨_, rfl, by rw [hall.out]; simp⟩, bG HB.out _⟩
      | false =>
        clear Hall
        go_wp2_with (go_at_call 34; ((with_reducible refine (hf.out _).mono ?_); rintro e w' ⟨rfl, hb⟩; obtain ⟨g, rfl⟩ := bout hb; clear hb))
        go_roundw
        case rel => exact ⟨j + 1, by omega, by go_num, Hs, bG HB.out _⟩
        case measure => simp [intOf]; omega
    · obtain rfl : j = L := by omega
      have hn' := hn.out
      rw [HL.out, List.take_length] at hn'
      have HB := hid hB
      have Hn := hid hn'
      clear hB hn hn'
      go_wp2
      go_ret
      exact ⟨⟨-1, rfl, by rw [Hn.out]; rfl⟩, HB.out⟩
theorem contains_any (p : Option Addr) (c : Nat) (ns : List Nd) (w : World) (ha : NodesAt w p ns) (hs : Small ns) (hch : Chan2 ns) :
    Calls Tryz.prog 33 #[.slice p ns.length c, .func (.func 34) #[] #[]] w fun e w' => e = .returned (.bool (ns.any asksB)) ∧ Below w.heap.size w w' := by
  have Hi := hid (index_any p c ns w ha hs hch)
  clear ha hs hch
  generalize ns.any asksB = r at *
  generalize ns.length = L at *
  go_enter Tryz.func33, Tryz.ntmps33
  go_wp2_with (go_at_call 64; ((with_reducible refine Hi.out.mono ?_); rintro e w' ⟨⟨n, rfl, hn⟩, hb⟩; have Hn := hid hn; clear hn; obtain ⟨g, rfl⟩ := bout hb; clear hb))
  go_ret
  exact ⟨by rw [← Hn.out]; rfl, bG (Below.refl _ _) _⟩
def freeS (ns : List Nd) : Bool := if (checkS ns).2 = 0 then !(ns.any asksB) else false
set_option maxRecDepth 100000 in
set_option maxHeartbeats 2000000 in
theorem free_any (p : Option Addr) (c : Nat) (ns : List Nd) (w : World) (ha : NodesAt w p ns) (hs : Small ns) (hc : Capped ns) (hl0 : Lib0 w) :
    Calls Tryz.prog 15 #[.slice p ns.length c] w fun e w' => e = .returned (.bool (freeS ns)) ∧ Below w.heap.size w w' := by
  have F1 : Hid (∀ w', Below w.heap.size w w' → Calls Tryz.prog 27 #[.slice p ns.length c] w' (ErrPost (checkS ns).1 (checkS ns).2 w')) := hid fun w' h => check_any w' p c ns hs hc (NodesAt.later ha h) (hl0.later h)
  have F2 : Hid ((checkS ns).2 = 0 → ∀ w', Below w.heap.size w w' → Calls Tryz.prog 33 #[.slice p ns.length c, .func (.func 34) #[] #[]] w' fun e w2 => e = .returned (.bool (ns.any asksB)) ∧ Below w'.heap.size w' w2) :=
    hid fun h0 w' h => contains_any p c ns w' (NodesAt.later ha h) hs (chan2_of h0)
  unfold freeS
  clear ha hs hc hl0
  generalize ns.any asksB = r at *
  generalize (checkS ns).1 = n1 at *
  generalize (checkS ns).2 = n2 at *
  generalize ns.length = L at *
  by_cases e0 : n2 = 0
  · rw [if_pos e0]
    subst e0
    have G2 := hid (F2.out rfl)
    clear F2
    go_enter Tryz.func15, Tryz.ntmps15
    go_wp2_with (first
      | (go_at_call 27; ((with_reducible refine (F1.out _ (by repeat (first | exact Below.refl _ _ | refine bG ?_ _ | refine bA ?_ _ | refine bD ?_ | refine bN ?_ _))).mono ?_)); rintro e w' ⟨rfl, hb⟩; obtain ⟨g1, rfl⟩ := bout hb; clear hb)
      | (go_at_call 33; ((with_reducible refine (G2.out _ (by repeat (first | exact Below.refl _ _ | refine bG ?_ _ | refine bA ?_ _ | refine bD ?_ | refine bN ?_ _))).mono ?_)); rintro e w' ⟨rfl, hb⟩; obtain ⟨g2, rfl⟩ := bout hb; clear hb))
    go_ret
    exact ⟨rfl, by repeat (first | exact Below.refl _ _ | refine bG ?_ _ | refine bA ?_ _ | refine bD ?_ | refine bN ?_ _)⟩
  · rw [if_neg e0]
    have hne : (n2 == 0) = false := by simp [e0]
    clear F2 e0
    go_enter Tryz.func15, Tryz.ntmps15
    go_wp2_with (first
      | (go_at_call 27; ((with_reducible refine (F1.out _ (by repeat (first | exact Below.refl _ _ | refine bG ?_ _ | refine bA ?_ _ | refine bD ?_ | refine bN ?_ _))).mono ?_)); rintro e w' ⟨rfl, hb⟩; obtain ⟨g1, rfl⟩ := bout hb; clear hb))
    go_ret
    exact ⟨rfl, by repeat (first | exact Below.refl _ _ | refine bG ?_ _ | refine bA ?_ _ | refine bD ?_ | refine bN ?_ _)⟩
set_option maxRecDepth 100000 in
set_option maxHeartbeats 2000000 in
theorem rfree_any (p : Option Addr) (c : Nat) (ns : List Nd) (w : World) (ha : NodesAt w p ns) (hs : Small ns) (hc : Capped ns) (hl0 : Lib0 w) :
    Calls Tryz.prog 16 #[.slice p ns.length c] w fun e w' => e = .returned (.bool (freeS ns)) ∧ Below w.heap.size w w' := by
  have F1 : Hid (∀ w', Below w.heap.size w w' → Calls Tryz.prog 24 #[.slice p ns.length c] w' (ErrPost (checkS ns).1 (checkS ns).2 w')) := hid fun w' h => rcheck_any w' p c ns hs hc (NodesAt.later ha h) (hl0.later h)
  have Hch : Hid ((checkS ns).2 = 0 → Chan2 ns) := hid chan2_of
  obtain ⟨L, hL⟩ : ∃ L, L = ns.length := ⟨_, rfl⟩
  rw [← hL] at F1 ⊢
  have hL5 : L ≤ 5000 := by have := hs.1; omega
  have HL := hid hL
  have Ha := hid ha
  have Hs := hid hs
  unfold freeS
  clear ha hs hc hl0 hL
  generalize (checkS ns).1 = n1 at *
  generalize (checkS ns).2 = n2 at *
  by_cases e0 : n2 = 0
  · rw [if_pos e0]
    subst e0
    have Hch2 := hid (Hch.out rfl)
    clear Hch
    go_enter Tryz.func16, Tryz.ntmps16
    go_wp2_with (first
      | (go_at_call 24; ((with_reducible refine (F1.out _ (by repeat (first | exact Below.refl _ _ | refine bG ?_ _ | refine bA ?_ _ | refine bD ?_ | refine bN ?_ _))).mono ?_)); rintro e w' ⟨rfl, hb⟩; obtain ⟨g1, rfl⟩ := bout hb; clear hb))
    go_loopw [16] (fun iv wr => ∃ j : Nat, j ≤ L ∧ iv = .int .i64 j ∧ Hid ((ns.take j).any asksB = false) ∧ Below w.heap.size w wr) (fun iv _ => L - (intOf iv).toNat)
    case atStart => exact ⟨0, Nat.zero_le _, rfl, hid (by simp), by repeat (first | exact Below.refl _ _ | refine bG ?_ _ | refine bA ?_ _ | refine bD ?_ | refine bN ?_ _)⟩
    case round =>
      obtain ⟨j, hj, rfl, hn, hB⟩ := hrel
      by_cases hlt : j < L
      · have hjn : j < ns.length := by have := HL.out; omega
        obtain ⟨b, o, rfl, hbl, hnz, hfine, c0, c1, c2, c3⟩ := nd_at (NodesAt.later Ha.out hB) hjn
        have hsucc := any_take_succ ns asksB j hjn
        rw [hn.out, Bool.false_or] at hsucc
        have j0 : (0 : Int) ≤ (j : Int) := by omega
        have j1 : (j : Int) < (L : Int) := by omega
        have HB := hid hB
        have Hall : Hid (asksB ns[j] = true → ns.any asksB = true) := hid fun h => List.any_eq_true.2 ⟨_, List.getElem_mem hjn, h⟩
        have hcz := Hch2.out ns[j] (List.getElem_mem hjn)
        have hsz := (Hs.out.2 ns[j] (List.getElem_mem hjn)).2
        clear hnz hfine hB
        generalize ns[j].kp = kp at *
        generalize ns[j].kids.length = q at *
        generalize ns[j].kcap = kc at *
        generalize ns[j].place = pl at *
        by_cases h36 : ns[j].kind = 36
        · have ht : asksB ns[j] = true := by simp [asksB, h36]
          have hall := hid (Hall.out ht)
          rw [h36] at c0
          generalize ns[j].text = tx at *
          clear hsucc Hall ht h36 hcz
          go_wp2
          go_ret
          exact ⟨by rw [hall.out]; rfl, bA HB.out _⟩
        · by_cases h2 : ns[j].kind = 2
          · have h22 := hcz h2
            have h2i : (2 : Int) ≤ (ns[j].text.size : Int) := by omega
            have ht : asksB ns[j] = !((ns[j].text.extract 2 ns[j].text.size).toList == [48]) := by simp [asksB, h2]
            rw [ht] at Hall hsucc
            rw [h2] at c0
            generalize ns[j].text = tx at *
            have Hs2 := hid hsucc
            clear ht hsucc h36 h2 hcz
            cases hr : ((tx.extract 2 tx.size).toList == [48]) with
            | true =>
              rw [hr] at Hs2
              clear Hall
              go_wp2
              go_roundw
              case rel => exact ⟨j + 1, by omega, by go_num, Hs2, bA HB.out _⟩
              case measure => simp [intOf]; omega
            | false =>
              rw [hr] at Hall
              have hall := hid (Hall.out rfl)
              clear Hall Hs2
              go_wp2
              go_ret
              exact ⟨by rw [hall.out]; rfl, bA HB.out _⟩
          · have k36 : (ns[j].kind == 36) = false := by simp [h36]
            have k2 : (ns[j].kind == 2) = false := by simp [h2]
            have ht : asksB ns[j] = false := by simp [asksB, h36, h2]
            rw [ht] at hsucc
            have Hs2 := hid hsucc
            generalize ns[j].text = tx at *
            generalize ns[j].kind = kd at *
            clear hsucc Hall ht h36 h2 hcz
            go_wp2
            go_roundw
            case rel => exact ⟨j + 1, by omega, by go_num, Hs2, bA HB.out _⟩
            case measure => simp [intOf]; omega
      · obtain rfl : j = L := by omega
        have hn' := hn.out
        rw [HL.out, List.take_length] at hn'
        have HB := hid hB
        have Hn := hid hn'
        clear hB hn hn'
        go_wp2
        go_ret
        exact ⟨by rw [Hn.out]; rfl, HB.out⟩
  · rw [if_neg e0]
    have hne : (n2 != 0) = true := by simp [e0]
    clear e0 Hch
    go_enter Tryz.func16, Tryz.ntmps16
    go_wp2_with (first
      | (go_at_call 24; ((with_reducible refine (F1.out _ (by repeat (first | exact Below.refl _ _ | refine bG ?_ _ | refine bA ?_ _ | refine bD ?_ | refine bN ?_ _))).mono ?_)); rintro e w' ⟨rfl, hb⟩; obtain ⟨g1, rfl⟩ := bout hb; clear hb))
    go_ret
    exact ⟨rfl, by repeat (first | exact Below.refl _ _ | refine bG ?_ _ | refine bA ?_ _ | refine bD ?_ | refine bN ?_ _)⟩
end Go.Proofs.YtbgjanmheagilaaGreatDoor
