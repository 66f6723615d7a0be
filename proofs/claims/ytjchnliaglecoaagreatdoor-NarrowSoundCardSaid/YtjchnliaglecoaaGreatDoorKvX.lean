/- types.of, walked: the flat type of kinds. Conditions: none. -/
import Derived.Deep.AppendLies
import Derived.Test.YtjchnliaglecoaaGreatDoorKk2
import Derived.Test.YtjchnliaglecoaaGreatDoorApX
set_option linter.unusedVariables false
set_option linter.unusedSimpArgs false
namespace Go.Proofs.YtjchnliaglecoaaGreatDoor
open Go Go.RowKit Go.Nodes
set_option linter.unusedVariables false
set_option linter.unusedSimpArgs false
@[go_sem] theorem idx127_any (w : World) (i : Nat) (h : i < 7) : (Instr.index 127 (.agg #[.int .i64 127, .int .i64 1, .int .i64 2, .int .i64 4, .int .i64 8, .int .i64 16, .int .i64 64]) (.int .i64 (i : Int))).run Tryz.prog w = .ok (.int .i64 (bitK (i : Int))) w := by
  have : i = 0 ∨ i = 1 ∨ i = 2 ∨ i = 3 ∨ i = 4 ∨ i = 5 ∨ i = 6 := by omega
  rcases this with rfl | rfl | rfl | rfl | rfl | rfl | rfl
  · exact idx127_0 w
  · exact idx127_1 w
  · exact idx127_2 w
  · exact idx127_3 w
  · exact idx127_4 w
  · exact idx127_5 w
  · exact idx127_6 w
theorem Tryz.infoT : (Tryz.prog.info? 39).map (fun i => (i.zero, i.size, i.bytes)) = some (some (.agg #[.int .i64 0, .slice none 0 0, .slice none 0 0]), 3, 56) := by kernel_rfl
theorem below_rowU {B g : Nat} {w0 w : World} (hb : Below B w0 w) (hBg : B ≤ g) (cs : Array Value) : Below B w0 (w.setRow g cs) := by
  obtain ⟨h1, h2, h3, h4, h5⟩ := hb
  exact ⟨h1, h2, h3, by simpa using h4, fun k hk => by rw [setRow_other _ _ _ _ (by omega)]; exact h5 k hk⟩
/-- The kinds, below so much, that a number has. -/
def selK (b : Int) : Nat → List Int
  | 0 => []
  | i + 1 => selK b i ++ if 0 < i ∧ bits .and .i64 b (bitK (i : Int)) ≠ 0 then [(i : Int)] else []
def leafC (k : Int) : List Value := [.int .i64 k, .slice none 0 0, .slice none 0 0]
def leafs (l : List Int) : List Value := (l.map leafC).flatten
theorem leafs_snoc (l : List Int) (k : Int) : leafs (l ++ [k]) = leafs l ++ leafC k := by simp [leafs]
theorem selK_len (b : Int) : ∀ i, (selK b i).length ≤ i
  | 0 => Nat.le_refl _
  | i + 1 => by
    have := selK_len b i
    unfold selK
    rw [List.length_append]
    split <;> simp <;> omega
def OfRel (w : World) (L : List Int) (W : World) : Prop := ∃ v, W.heap[w.heap.size + 1]? = some (.cells #[.int .i64 7, .slice none 0 0, v] 39 (0, 0)) ∧ W.ownsRow (w.heap.size + 2) 39 3 v L.length (leafs L) ∧
  W.heap[w.heap.size]? = some (.cells #[.int .i64 0, .slice none 0 0, .slice none 0 0] 39 (0, 0)) ∧ Below w.heap.size w W
theorem ofRel_append {w W W1 : World} {L : List Int} {n : Nat} (hn : n = L.length) {v v' : Value} {k : Int} (h0 : W.heap[w.heap.size + 1]? = some (.cells #[.int .i64 7, .slice none 0 0, v] 39 (0, 0))) (hO : W.ownsRow (w.heap.size + 2) 39 3 v n (leafs L))
    (hR : W.heap[w.heap.size]? = some (.cells #[.int .i64 0, .slice none 0 0, .slice none 0 0] 39 (0, 0))) (hB : Below w.heap.size w W) (o : Obj) (hg : (W.alloc o).grownBy W1 v.ownBlock) (h1 : W1.ownsRow (w.heap.size + 2) 39 3 v' (n + 1) (leafs L ++ leafC k)) :
    W1.heap[w.heap.size + 1]? = some (.cells #[.int .i64 7, .slice none 0 0, v] 39 (0, 0)) ∧ OfRel w (L ++ [k]) (W1.setCell ⟨w.heap.size + 1, 2, none⟩ v') := by
  subst hn
  have hlt := (Array.getElem?_eq_some_iff.1 h0).1
  have hltR := (Array.getElem?_eq_some_iff.1 hR).1
  have hge : ∀ g, v.ownBlock = some g → w.heap.size + 2 ≤ g := fun g hg' => (hO.lt g hg').1
  have hge' : ∀ g, v'.ownBlock = some g → w.heap.size + 2 ≤ g := fun g hg' => (h1.lt g hg').1
  have a0 : W1.heap[w.heap.size + 1]? = some (.cells #[.int .i64 7, .slice none 0 0, v] 39 (0, 0)) := by
    rw [hg.block _ (by simp; omega) (fun e => by have := hge _ e.symm; omega), Below.heap_alloc _ _ _ hlt]; exact h0
  have aR : W1.heap[w.heap.size]? = some (.cells #[.int .i64 0, .slice none 0 0, .slice none 0 0] 39 (0, 0)) := by
    rw [hg.block _ (by simp; omega) (fun e => by have := hge _ e.symm; omega), Below.heap_alloc _ _ _ hltR]; exact hR
  refine ⟨a0, v', ?_, ?_, ?_, ?_⟩
  · have hl1 := (Array.getElem?_eq_some_iff.1 a0).1
    have h' : W1.heap[w.heap.size + 1] = .cells #[.int .i64 7, .slice none 0 0, v] 39 (0, 0) := by simpa [Array.getElem?_eq_getElem hl1] using a0
    show (W1.heap.modify (w.heap.size + 1) _)[w.heap.size + 1]? = _
    rw [Array.getElem?_eq_getElem (by simpa using hl1), Array.getElem_modify_self, h']
    rfl
  · have hk : W1.grownBy (W1.setCell ⟨w.heap.size + 1, 2, none⟩ v') (some (w.heap.size + 1)) := ⟨rfl, rfl, rfl, by simp, fun n hn hne => Below.heap_setCell _ _ _ _ (by simpa using hne)⟩
    rw [List.length_append, leafs_snoc]
    refine h1.kept hk ?_
    cases hv : v'.ownBlock with
    | none => exact .inl rfl
    | some g => exact .inr fun e => by cases e; have := hge' _ hv; omega
  · rw [Below.heap_setCell _ _ _ _ (by simp)]; exact aR
  · exact ((hB.alloc hB.size _).grown hg (by simp; have := hB.size; omega) (fun g hg' => by have := hge g hg'; omega)).setCell (p := ⟨w.heap.size + 1, 2, none⟩) (by simp) _
set_option maxRecDepth 100000 in
set_option maxHeartbeats 4000000 in
theorem of85 (b : Int) (w : World) :
    Calls Tryz.prog 85 #[.int .i64 b] w fun e w' => Below w.heap.size w w' ∧ ((∃ k, selK b 7 = [k] ∧ e = .returned (.agg #[.int .i64 k, .slice none 0 0, .slice none 0 0])) ∨
      ((selK b 7).length ≠ 1 ∧ ∃ v, e = .returned (.agg #[.int .i64 7, .slice none 0 0, v]) ∧ w'.ownsRow w.heap.size 39 3 v (selK b 7).length (leafs (selK b 7)))) := by
  obtain ⟨iT, hiT, zT0, zT1, zT2⟩ := info_parts Tryz.infoT
  go_enter Tryz.func85, Tryz.ntmps85
  go_wp2_with (go_at_call 82; refine (bits82 _).mono ?_; rintro e w' ⟨rfl, hb⟩; obtain ⟨G, rfl⟩ := bout hb; clear hb)
  go_loopw [8] (fun iv wr => ∃ i : Nat, i ≤ 7 ∧ iv = .int .i64 i ∧ OfRel w (selK b i) wr) (fun iv _ => 7 - (intOf iv).toNat)
  case atStart =>
    refine ⟨0, by omega, rfl, .slice none 0 0, ?_, ⟨by simp [leafs, selK], .inl ⟨rfl, rfl⟩⟩, ?_, by repeat (first | exact Below.refl _ _ | refine bN ?_ _ | refine bD ?_ | refine bG ?_ _ | refine bI ?_ _ _ | refine bA ?_ _)⟩
    · rw [(below_grow _ G).block _ (by simp)]
      have := heap_alloc_new (w.alloc (.cells #[.int .i64 0, .slice none 0 0, .slice none 0 0] 39)) (.cells #[.int .i64 7, .slice none 0 0, .slice none 0 0] 39)
      simpa using this
    · rw [(below_grow _ G).block _ (by simp; omega), Below.heap_alloc _ _ _ (by simp)]
      exact heap_alloc_new _ _
  case round =>
    obtain ⟨i, hi, rfl, v, h0, hO, hR, hB⟩ := hrel
    have hlen := selK_len b i
    obtain ⟨n, hn⟩ : ∃ n, n = (selK b i).length := ⟨_, rfl⟩
    obtain ⟨vp, vc, hv⟩ : ∃ vp vc, v = .slice vp n vc := by
      rcases hO.2 with ⟨e1, e2⟩ | ⟨g, cap, cur, e1, _⟩
      · exact ⟨none, 0, by rw [e1, hn, e2]⟩
      · exact ⟨_, _, by rw [e1, hn]⟩
    have lT : w.heap.size + 1 < wr.heap.size := (Array.getElem?_eq_some_iff.1 h0).1
    have cT0 : wr.cell? ⟨w.heap.size + 1, 0, none⟩ = some (.int .i64 7) := by simp [World.cell?, h0]
    have cT1 : wr.cell? ⟨w.heap.size + 1, 1, none⟩ = some (.slice none 0 0) := by simp [World.cell?, h0]
    have cT2 : wr.cell? ⟨w.heap.size + 1, 2, none⟩ = some v := by simp [World.cell?, h0]
    have fT2 : wr.frozen? ⟨w.heap.size + 1, 2, none⟩ = false := by simp [World.frozen?, h0]
    have hn7 : n ≤ 7 := by omega
    rw [← hn] at hO
    have H0 := hid h0
    have HO := hid hO
    have HR := hid hR
    have HB := hid hB
    have Hn := hid hn
    subst hv
    clear h0 hO hR hB hlen hn
    by_cases hlt : i < 7
    · have hi7 : (i : Int) < 7 := by omega
      by_cases hp : 0 < i ∧ bits .and .i64 b (bitK (i : Int)) ≠ 0
      · have hp1 : (0 : Int) < (i : Int) := by omega
        have hp2 : (bits .and .i64 b (bitK (i : Int)) != 0) = true := by simp [hp.2]
        have Hsel : Hid (selK b (i + 1) = selK b i ++ [(i : Int)]) := hid (by rw [selK, if_pos hp])
        clear hp
        go_wp2_with (at_builtin; go_loud (refine wpList_append_where _ rfl _ _ 37 rfl (w.heap.size + 2) 39 iT _ 3 56 Tryz.underlying37 hiT zT0 zT1 zT2 rfl (by decide) (.slice vp n vc) n (leafs (selK b i)) rfl ?aown ⟨wr.heap.size, 0, none⟩ 1 1 (by decide) (leafC (i : Int)) rfl rfl ?anews (by simp [leafC, Value.oneCell']) ?a63 ?abytes ?abase ?arest))
        case aown => exact own_below HO.out (bA (Below.refl _ _) _)
        case anews => exact World.news_of_block (cs := #[.int .i64 (i : Int), .slice none 0 0, .slice none 0 0]) (t := 39) (fr := (0, 0)) (heap_alloc_new _ _)
        case a63 => unfold maxLen; omega
        case abytes => omega
        case abase => simp; omega
        case arest =>
          intro v' W1 k1 k2 k3
          obtain ⟨q1, q2⟩ := ofRel_append Hn.out H0.out HO.out HR.out HB.out _ k2 k1
          have c1 : W1.cell? ⟨w.heap.size + 1, 2, none⟩ = some (.slice vp n vc) := by simp [World.cell?, q1]
          have f1 : W1.frozen? ⟨w.heap.size + 1, 2, none⟩ = false := by simp [World.frozen?, q1]
          obtain ⟨vp', n', vc', rfl⟩ : ∃ vp' n' vc', v' = .slice vp' n' vc' := by
            rcases k1.2 with ⟨e1, _⟩ | ⟨g, cap, cur, e1, _⟩
            · exact ⟨_, _, _, e1⟩
            · exact ⟨_, _, _, e1⟩
          have Q2 := hid q2
          clear k1 k2 k3 q1 q2 cT0 cT1 cT2 fT2
          go_wp2
          go_roundw
          case rel => exact ⟨i + 1, by omega, by go_num, by rw [Hsel.out]; exact Q2.out⟩
          case measure => simp [intOf]; omega
      · have Hsel : Hid (selK b (i + 1) = selK b i) := hid (by rw [selK, if_neg hp, List.append_nil])
        by_cases hz : i = 0
        · subst hz
          clear hp
          go_wp2
          go_roundw
          case rel => exact ⟨1, by omega, by go_num, by rw [Hsel.out]; exact ⟨_, H0.out, by rw [← Hn.out]; exact HO.out, HR.out, HB.out⟩⟩
          case measure => simp [intOf]
        · have hp1 : (0 : Int) < (i : Int) := by omega
          have hp2 : (bits .and .i64 b (bitK (i : Int)) != 0) = false := by
            have : ¬ bits .and .i64 b (bitK (i : Int)) ≠ 0 := fun h => hp ⟨by omega, h⟩
            simpa using this
          clear hp
          go_wp2
          go_roundw
          case rel => exact ⟨i + 1, by omega, by go_num, by rw [Hsel.out]; exact ⟨_, H0.out, by rw [← Hn.out]; exact HO.out, HR.out, HB.out⟩⟩
          case measure => simp [intOf]; omega
    · obtain rfl : i = 7 := by omega
      have lR : w.heap.size < wr.heap.size := by omega
      have hRr := HR.out
      by_cases hn1 : n = 1
      · subst hn1
        obtain ⟨k, hk⟩ : ∃ k, selK b 7 = [k] := List.length_eq_one_iff.1 Hn.out.symm
        have hO := HO.out
        rw [hk] at hO
        obtain ⟨g, hg, hgl, x0, x1, x2⟩ : ∃ g, vp = some ⟨g, 0, none⟩ ∧ g < wr.heap.size ∧ wr.cell? ⟨g, 0, none⟩ = some (.int .i64 k) ∧ wr.cell? ⟨g, 1, none⟩ = some (.slice none 0 0) ∧ wr.cell? ⟨g, 2, none⟩ = some (.slice none 0 0) := by
          rcases hO.2 with ⟨e1, e2⟩ | ⟨g, cap, cur, e1, hge, hh, hnc, hcm, hcs, htk⟩
          · cases e2
          · cases e1
            have hc : ∀ j, j < 3 → cur[j]? = (leafs [k])[j]? := fun j hj => by
              have := congrArg (fun l : List Value => l[j]?) htk
              simp only [List.getElem?_take_of_lt (show j < 1 * 3 by omega)] at this
              simpa using this
            refine ⟨g, rfl, (Array.getElem?_eq_some_iff.1 hh).1, ?_, ?_, ?_⟩
            · simp [World.cell?, hh, hc 0 (by omega), leafs, leafC]
            · simp [World.cell?, hh, hc 1 (by omega), leafs, leafC]
            · simp [World.cell?, hh, hc 2 (by omega), leafs, leafC]
        subst hg
        have Hk := hid hk
        clear hO hk
        have HRr := hid hRr
        have hi39 : Hid ((Tryz.prog.info? 39).map (·.size) = some 3) := hid (by kernel_rfl)
        clear hRr
        go_wp2_with (refine wpList_store_row rfl 39 _ _ rfl w.heap.size #[.int .i64 k, .slice none 0 0, .slice none 0 0] rfl rfl 39 #[.int .i64 0, .slice none 0 0, .slice none 0 0] HRr.out hi39.out rfl (by simp [Value.oneCell']) ?_)
        exact ⟨rfl, _, results_cell_row (by rfl) _ _ w.heap.size 39 #[.int .i64 k, .slice none 0 0, .slice none 0 0] (0, 0) _ rfl (setRow_heap _ _ _ _ _ _ HRr.out) Tryz.underlying39 rfl (by kernel_rfl), below_rowU HB.out (Nat.le_refl _) _, .inl ⟨k, Hk.out, rfl⟩⟩
      · have hn2 : ((n : Int) == 1) = false := by simp; omega
        have Hn1 := hid hn1
        have HRr := hid hRr
        have hi39 : Hid ((Tryz.prog.info? 39).map (·.size) = some 3) := hid (by kernel_rfl)
        clear hn1 hRr
        go_wp2_with (refine wpList_store_row rfl 39 _ _ rfl w.heap.size #[.int .i64 7, .slice none 0 0, .slice vp n vc] rfl rfl 39 #[.int .i64 0, .slice none 0 0, .slice none 0 0] HRr.out hi39.out rfl (by simp [Value.oneCell']) ?_)
        refine ⟨rfl, _, results_cell_row (by rfl) _ _ w.heap.size 39 #[.int .i64 7, .slice none 0 0, .slice vp n vc] (0, 0) _ rfl (setRow_heap _ _ _ _ _ _ HRr.out) Tryz.underlying39 rfl (by kernel_rfl), below_rowU HB.out (Nat.le_refl _) _, .inr ⟨by rw [← Hn.out]; exact Hn1.out, _, rfl, ?_⟩⟩
        rw [← Hn.out]
        refine ⟨HO.out.1, ?_⟩
        rcases HO.out.2 with h | ⟨g, cap, cur, e1, hge, hh, hr⟩
        · exact .inl h
        · exact .inr ⟨g, cap, cur, e1, by omega, by rw [setRow_other _ _ _ _ (by omega)]; exact hh, hr⟩
end Go.Proofs.YtjchnliaglecoaaGreatDoor

/- types.Union, walked: where kinds are one to five of the six. Conditions: so many kinds. -/
namespace Go.Proofs.YtjchnliaglecoaaGreatDoor
open Go Go.RowKit Go.Nodes
set_option linter.unusedVariables false
set_option linter.unusedSimpArgs false
def leafT (k : Int) : Sk := .mk k [] []
/-- The flat type of kinds. -/
def unionT (b : Int) : Sk := match selK b 7 with
  | [k] => leafT k
  | l => .mk 7 [] (l.map leafT)
theorem selK_in (b : Int) : ∀ (i : Nat) (k : Int), k ∈ selK b i → 0 < k ∧ k < i
  | 0, k, h => nomatch h
  | i + 1, k, h => by
    unfold selK at h
    rcases List.mem_append.1 h with h | h
    · have := selK_in b i k h
      omega
    · split at h
      · rename_i hp
        obtain rfl := List.mem_singleton.1 h
        omega
      · cases h
theorem leaf_at (W : World) (k : Int) (hk : i64 k) : TyAt W 1 (leafC k) (leafT k) :=
  ⟨hk, by simp, by simp, none, 0, none, 0, rfl, .inl rfl, .inl rfl⟩
theorem leafs_get : ∀ (l : List Int) (i : Nat) (h : i < l.length) (j : Nat), j < 3 → (leafs l)[i * 3 + j]? = (leafC l[i])[j]?
  | [], i, h, j, hj => by simp at h
  | x :: l, 0, h, j, hj => by
    show (leafC x ++ leafs l)[0 * 3 + j]? = _
    rw [List.getElem?_append_left (by simp [leafC]; omega)]
    simp
  | x :: l, i + 1, h, j, hj => by
    show (leafC x ++ leafs l)[(i + 1) * 3 + j]? = _
    rw [List.getElem?_append_right (by simp [leafC]; omega), show (i + 1) * 3 + j - (leafC x).length = i * 3 + j by simp [leafC]; omega]
    exact leafs_get l i (by simpa using h) j hj
theorem union_at {W : World} {B : Nat} {v : Value} {l : List Int} (hO : W.ownsRow B 39 3 v l.length (leafs l)) (hl : ∀ k ∈ l, i64 k) (hm : l.length ≤ 7) : ∃ p c, v = .slice p l.length c ∧ TyAt W 2 [.int .i64 7, .slice none 0 0, v] (.mk 7 [] (l.map leafT)) := by
  rcases hO.2 with ⟨e1, e2⟩ | ⟨g, cap, cur, e1, hge, hh, hnc, hcm, hcs, htk⟩
  · have : l = [] := List.length_eq_zero_iff.1 e2
    subst this
    exact ⟨none, 0, e1, ⟨⟨by decide, by decide⟩, by simp, by simp, none, 0, none, 0, by rw [e1]; rfl, .inl rfl, .inl rfl⟩⟩
  · refine ⟨_, _, e1, ⟨⟨by decide, by decide⟩, by simp, by simp [maxLen]; omega, none, 0, some ⟨g, 0, none⟩, cap, by rw [e1]; simp, .inl rfl, .inr ⟨g, 0, rfl, (Array.getElem?_eq_some_iff.1 hh).1, fun i hi => ?_⟩⟩⟩
    have hi' : i < l.length := by simpa using hi
    refine ⟨leafC l[i], rfl, fun j u hj => ?_, ?_⟩
    · have hj3 : j < 3 := by
        have := (List.getElem?_eq_some_iff.1 hj).1
        simpa [leafC] using this
      have h1 := leafs_get l i hi' j hj3
      rw [hj, ← htk, List.getElem?_take_of_lt (by omega)] at h1
      simp only [World.cell?, hh]
      simpa using h1
    · rw [List.getElem_map]
      exact leaf_at W _ (hl _ (List.getElem_mem hi'))
theorem own_swap {w : World} {a b : Array Value} {t : TypeId} {G : Gro} {e : TypeId} {size : Nat} {v : Value} {n : Nat} {xs : List Value} (h : (grow (w.alloc (.cells a t)) G).ownsRow (w.heap.size + 1) e size v n xs) :
    (grow (w.alloc (.cells b t)) G).ownsRow (w.heap.size + 1) e size v n xs := by
  refine ⟨h.1, ?_⟩
  rcases h.2 with h | ⟨g, cap, cur, e1, hge, hh, hr⟩
  · exact .inl h
  · refine .inr ⟨g, cap, cur, e1, hge, ?_, hr⟩
    rw [← hh]
    have key : ∀ o : Obj, ((w.heap.push o) ++ G.blocks)[g]? = G.blocks[g - (w.heap.size + 1)]? := fun o => by
      rw [Array.getElem?_append_right (by simp; omega), Array.size_push]
    show (w.heap.push _ ++ G.blocks)[g]? = (w.heap.push _ ++ G.blocks)[g]?
    rw [key, key]
theorem unionT_many {b : Int} (h : (selK b 7).length ≠ 1) : unionT b = .mk 7 [] ((selK b 7).map leafT) := by
  unfold unionT
  split
  · rename_i k hk; rw [hk] at h; exact absurd rfl h
  · rfl
/-- A type that lies in blocks from B on. -/
def TyFrom (B : Nat) (W : World) (f : Nat) (va : List Value) (T : Sk) : Prop := ∀ W', W.heap.size ≤ W'.heap.size → (∀ g, B ≤ g → g < W.heap.size → W'.heap[g]? = W.heap[g]?) → TyAt W' f va T
theorem own_from {B : Nat} {W W' : World} {e : TypeId} {size : Nat} {v : Value} {n : Nat} {xs : List Value} (h : W.ownsRow B e size v n xs) (hg : ∀ g, B ≤ g → g < W.heap.size → W'.heap[g]? = W.heap[g]?) : W'.ownsRow B e size v n xs := by
  refine ⟨h.1, ?_⟩
  rcases h.2 with h | ⟨g, cap, cur, e1, hge, hh, hr⟩
  · exact .inl h
  · exact .inr ⟨g, cap, cur, e1, hge, by rw [hg g hge (Array.getElem?_eq_some_iff.1 hh).1]; exact hh, hr⟩
set_option maxRecDepth 100000 in
set_option maxHeartbeats 4000000 in
theorem union39 (b : Int) (w : World) (h1 : 1 ≤ (selK b 7).length) (h5 : (selK b 7).length ≤ 5) :
    Calls Tryz.prog 39 #[.int .i64 b] w fun e w' => Below w.heap.size w w' ∧ ∃ va, e = .returned (.agg va.toArray) ∧ TyFrom w.heap.size w' 2 va (unionT b) := by
  have hin : ∀ k ∈ selK b 7, i64 k := fun k hk => by have := selK_in b 7 k hk; exact ⟨by omega, by omega⟩
  have H := hid (fun W => of85 b W)
  have Hin := hid hin
  obtain ⟨n, hn⟩ : ∃ n, n = (selK b 7).length := ⟨_, rfl⟩
  rw [← hn] at h1 h5
  have Hn := hid hn
  have hi39 : Hid ((Tryz.prog.info? 39).map (·.size) = some 3) := hid (by kernel_rfl)
  clear hin hn
  by_cases hn1 : n = 1
  · obtain ⟨k, hk⟩ : ∃ k, selK b 7 = [k] := List.length_eq_one_iff.1 (by rw [← Hn.out]; exact hn1)
    have hkk := selK_in b 7 k (by rw [hk]; simp)
    have hT : Hid (∀ W, TyAt W 2 [.int .i64 k, .slice none 0 0, .slice none 0 0] (unionT b)) := hid fun W => by
      unfold unionT
      rw [hk]
      exact TyAt.more 1 _ _ (leaf_at W k ⟨by omega, by omega⟩)
    have HH : Hid (∀ W, Calls Tryz.prog 85 #[.int .i64 b] W fun e w' => Below W.heap.size W w' ∧ e = .returned (.agg #[.int .i64 k, .slice none 0 0, .slice none 0 0])) := hid fun W => (H.out W).mono fun e w' ⟨hb, h⟩ => ⟨hb, by
      rcases h with ⟨k', hk', he⟩ | ⟨hne, _⟩
      · rw [hk] at hk'; cases hk'; exact he
      · exact absurd (by rw [← Hn.out]; exact hn1) hne⟩
    have hk7 : (k == 7) = false := by simp; omega
    clear H Hin Hn hn1 h1 h5 hk hkk
    go_enter Tryz.func39, Tryz.ntmps39
    go_wp2_with (go_at_call 85; refine (HH.out _).mono ?_; rintro e w' ⟨hb, rfl⟩; obtain ⟨G, rfl⟩ := bout hb; clear hb)
    exact ⟨rfl, _, results_cell_row (by rfl) _ _ w.heap.size 39 #[.int .i64 k, .slice none 0 0, .slice none 0 0] (0, 0) _ rfl (by
      rw [Below.heap_alloc _ _ _ (by simp; omega), (below_grow _ G).block _ (by simp)]
      exact heap_alloc_new _ _) Tryz.underlying39 rfl (by kernel_rfl), by repeat (first | exact Below.refl _ _ | refine bN ?_ _ | refine bD ?_ | refine bG ?_ _ | refine bI ?_ _ _ | refine bA ?_ _), [.int .i64 k, .slice none 0 0, .slice none 0 0], rfl, fun W' _ _ => hT.out W'⟩
  · have HH : Hid (∀ W, Calls Tryz.prog 85 #[.int .i64 b] W fun e w' => ∃ p c, e = .returned (.agg #[.int .i64 7, .slice none 0 0, .slice p n c]) ∧ Below W.heap.size W w' ∧ Hid (w'.ownsRow W.heap.size 39 3 (.slice p n c) (selK b 7).length (leafs (selK b 7)))) := hid fun W => (H.out W).mono fun e w' ⟨hb, h⟩ => by
      rcases h with ⟨k', hk', he⟩ | ⟨hne, v, he, hO⟩
      · rw [hk'] at Hn; exact absurd Hn.out hn1
      · obtain ⟨p, c, rfl, hT⟩ := union_at hO Hin.out (by rw [← Hn.out]; omega)
        rw [← Hn.out] at he
        exact ⟨p, c, he, hb, hid (by rw [Hn.out]; exact hO)⟩
    have HU : Hid (∀ (B : Nat) (W : World) (p : Option Addr) (c : Nat), W.ownsRow B 39 3 (.slice p n c) (selK b 7).length (leafs (selK b 7)) → TyAt W 2 [.int .i64 7, .slice none 0 0, .slice p n c] (unionT b)) := hid fun B W p c hO => by
      obtain ⟨p', c', hv, hT⟩ := union_at hO Hin.out (by rw [← Hn.out]; omega)
      rw [unionT_many (by rw [← Hn.out]; exact hn1)]
      exact hT
    have n0 : ((n : Int) == 0) = false := by simp; omega
    have n6 : ((n : Int) == 6) = false := by simp; omega
    clear H Hin Hn h1 h5 hn1
    go_enter Tryz.func39, Tryz.ntmps39
    go_wp2_with (go_at_call 85; refine (HH.out _).mono ?_; rintro e w' ⟨p, c, rfl, hb, K⟩; obtain ⟨G, rfl⟩ := bout hb; clear hb)
    refine ⟨rfl, _, results_cell_row (by rfl) _ _ w.heap.size 39 #[.int .i64 7, .slice none 0 0, .slice p n c] (0, 0) _ rfl (by
      rw [Below.heap_alloc _ _ _ (by simp; omega), (below_grow _ G).block _ (by simp)]
      exact heap_alloc_new _ _) Tryz.underlying39 rfl (by kernel_rfl), by repeat (first | exact Below.refl _ _ | refine bN ?_ _ | refine bD ?_ | refine bG ?_ _ | refine bI ?_ _ _ | refine bA ?_ _), [.int .i64 7, .slice none 0 0, .slice p n c], rfl, ?_⟩
    exact fun W' _ hg => HU.out (w.heap.size + 1) _ _ _ (own_from (own_below (own_swap (by simpa using K.out)) (bA (Below.refl _ _) _)) (fun g h1 h2 => hg g (by omega) h2))
end Go.Proofs.YtjchnliaglecoaaGreatDoor
