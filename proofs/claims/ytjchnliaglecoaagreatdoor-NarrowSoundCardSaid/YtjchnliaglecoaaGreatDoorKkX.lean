/- types.Check, walked: a type that may be is taken. Conditions: names of no monstrous size; the library's variables. -/
import Derived.Defers
import Derived.Recover
import Derived.Laws.Pointers
import Derived.Test.YtjchnliaglecoaaGreatDoorKl3X
import Derived.Test.YtjchnliaglecoaaGreatDoorKl4
set_option linter.unusedVariables false
set_option linter.unusedSimpArgs false
namespace Go.Proofs.YtjchnliaglecoaaGreatDoor
open Go Go.RowKit Go.Nodes
set_option linter.unusedVariables false
set_option linter.unusedSimpArgs false
set_option maxHeartbeats 4000000 in
theorem look131 : ∀ (f : Nat) (W0 : World) (va : List Value) (T : Sk), TyAt W0 f va T → SmallT f T → Lib0 W0 → ∀ (W : World) (BM : Nat) (d m r : Int), W0.heap.size ≤ BM → Below W0.heap.size W0 W →
    W.heap[BM]? = some (.cells #[.int .i64 m] 3 (0, 0)) → W.heap[BM + 1]? = some (.cells #[.func (.func 131) #[] #[.pointer (some ⟨BM, 0, none⟩), .pointer (some ⟨BM + 1, 0, none⟩)]] 166 (0, 0)) →
    0 ≤ d → 0 ≤ m → chk f T d m = some r → r ≤ 10000 →
    Calls Tryz.prog 131 #[.agg va.toArray, .int .i64 d, .pointer (some ⟨BM, 0, none⟩), .pointer (some ⟨BM + 1, 0, none⟩)] W (LookPost W BM r)
  | 0, _, _, _, h, _, _, _, _, _, _, _, _, _, _, _, _, _, _, _ => h.elim
  | f + 1, W0, va, .mk k ns qs, hA, hS, hl, W, BM, d, m, r, hW0, hb0, hM, hK, d0, m0, hc, hr => by
    obtain ⟨_, l1, l2, np, nc, ap, ac, rfl, hn, ha⟩ := hA
    unfold SmallT at hS
    have Hc : Hid (∀ (i : Nat) (hi : i < qs.length) (va : List Value) (c c' : Int), TyAt W0 f va qs[i] → chk f qs[i] (d + 1) c = some c' → c' ≤ 10000 → 0 ≤ c → ∀ V, Below W0.heap.size W0 V → V.heap[BM]? = some (.cells #[.int .i64 c] 3 (0, 0)) →
      V.heap[BM + 1]? = some (.cells #[.func (.func 131) #[] #[.pointer (some ⟨BM, 0, none⟩), .pointer (some ⟨BM + 1, 0, none⟩)]] 166 (0, 0)) → Calls Tryz.prog 131 #[.agg va.toArray, .int .i64 (d + 1), .pointer (some ⟨BM, 0, none⟩), .pointer (some ⟨BM + 1, 0, none⟩)] V (LookPost V BM c')) :=
      hid fun i hi va c c' hT h1 h2 h3 V hbV hMV hKV => look131 f W0 va qs[i] hT (hS.2 _ (List.getElem_mem hi)) hl V BM (d + 1) c c' hW0 hbV hMV hKV (by omega) h3 h1 h2
    unfold maxLen at l1 l2
    have p1 : (ns.length : Int) ≤ 9223372036854775807 := by omega
    have p2 : (qs.length : Int) ≤ 9223372036854775807 := by omega
    show Calls Tryz.prog 131 #[.agg #[.int .i64 k, .slice np ns.length nc, .slice ap qs.length ac], .int .i64 d, .pointer (some ⟨BM, 0, none⟩), .pointer (some ⟨BM + 1, 0, none⟩)] W (LookPost W BM r)
    unfold chk at hc
    split at hc
    · cases hc
    rename_i h0
    have hd : d ≤ 50 := by omega
    have hm : m + 1 ≤ 10000 := by omega
    split at hc
    · rename_i h6
      split at hc
      · rename_i h1
        cases hc
        exact lk_flat W BM k d m _ np ap _ nc _ ac d0 hd m0 hm p1 p2 hM hK h6 h1.1 h1.2 rfl
      · cases hc
    split at hc
    · rename_i h7
      split at hc
      · rename_i h1
        cases hc
        exact lk_union W BM k d m _ np ap _ nc _ ac d0 hd m0 hm p1 p2 hM hK W0 f ns qs hW0 hb0 (hid hn) (hid ha) (hid rfl) (hid rfl) hr Hc h7 h1.2.1 h1.1 h1.2.2 rfl
      · cases hc
    split at hc
    · rename_i h8
      split at hc
      · rename_i h1
        exact lk_shape W BM k d m _ np ap _ nc _ ac d0 hd m0 hm p1 p2 hM hK W0 f ns qs hW0 hb0 (hid hn) (hid ha) (hid rfl) (hid rfl) hr Hc (hid hl) (hid hS.1) h8 h1.1 h1.2 hc
      · cases hc
    split at hc
    · rename_i h9
      split at hc
      · rename_i h1
        exact lk_func W BM k d m _ np ap _ nc _ ac d0 hd m0 hm p1 p2 hM hK W0 f ns qs hW0 hb0 (hid hn) (hid ha) (hid rfl) (hid rfl) hr Hc h9 h1.1 hc h1.2
      · cases hc
    · cases hc
theorem frame178 (B C : Nat) : (#[Value.pointer (some ⟨B, 0, none⟩), Value.pointer (some ⟨C, 0, none⟩)] ++ Array.replicate (Tryz.f178.ntmps - #[Value.pointer (some ⟨B, 0, none⟩), Value.pointer (some ⟨C, 0, none⟩)].size) undef) = #[.pointer (some ⟨B, 0, none⟩), .pointer (some ⟨C, 0, none⟩), undef, undef, undef, undef, undef, undef, undef, undef, undef, undef, undef, undef, undef, undef, undef, undef, undef, undef] := by
  simp only [Tryz.ntmps178, List.size_toArray, List.length_cons, List.length_nil, Nat.reduceAdd, Nat.reduceSub, Array.replicate_succ, Array.replicate_zero, List.push_toArray, List.append_toArray, List.nil_append, List.cons_append]
set_option maxRecDepth 10000 in
theorem idle178 (B C : Nat) (w : World) :
    CallsD Tryz.prog 178 #[.pointer (some ⟨B, 0, none⟩), .pointer (some ⟨C, 0, none⟩)] .returning w fun e u' w' => e = .returned (.tuple #[]) ∧ u' = .returning ∧ w' = w := by
  refine callsD_of_wpS Tryz.func178 rfl fun c₀ cs hu => ?_
  rw [frame178]
  apply wpS_seq
  apply wpS_region
  simp [wpOpsS, go_sem, recoverD, hu, Exit.thenS]
  refine wpS_of_wp ?_
  go_wp2
  cases c₀
  simp_all [bodyPostS, results, Tryz.results178]
set_option maxRecDepth 10000 in
theorem guarded135 (a b : Value) (W : World) (BM : Nat) (r : Int) (hBM : BM < W.heap.size)
    (h : Calls Tryz.prog 136 #[a, b] ((W.alloc (.cells #[.int .i64 0] 3)).alloc (.cells #[.int .i64 0] 46)) (LookPost ((W.alloc (.cells #[.int .i64 0] 3)).alloc (.cells #[.int .i64 0] 46)) BM r)) :
    Calls Tryz.prog 135 #[.func (.func 136) #[] #[a, b]] W fun e w' => e = .returned (.tuple #[.int .i64 0, .int .i64 0]) ∧ Below BM W w' := by
  have hmf : ∀ (fn : Fn) (first cap : Array Value) (w : World), (Instr.makeFunc fn first cap).run Tryz.prog w = .ok (.func fn first cap) w := fun _ _ _ _ => rfl
  have H := hid h
  have hne : ¬ W.heap.size = BM := by omega
  have hne2 : ¬ W.heap.size + 1 = BM := by omega
  clear h
  unfold LookPost at H
  go_enter_defers Tryz.func135, Tryz.ntmps135
  go_wp2_with (go_at_call 136; ((with_reducible refine H.out.mono ?_)); rintro e w' ⟨rfl, g, rfl⟩)
  refine leaves_cons (f := 178) (args := #[.pointer (some ⟨W.heap.size, 0, none⟩), .pointer (some ⟨W.heap.size + 1, 0, none⟩)]) (by simp) (by simp [go_sem]) ?_
  refine (idle178 W.heap.size (W.heap.size + 1) _).mono ?_
  rintro e u' w'' ⟨rfl, rfl, rfl⟩
  have hB : Below BM W (grow (((W.setCell ⟨BM, 0, none⟩ (.int .i64 r)).alloc (.cells #[.int .i64 0] 3)).alloc (.cells #[.int .i64 0] 46)) g) := by
    have h1 : Below BM W (W.setCell ⟨BM, 0, none⟩ (.int .i64 r)) := (Below.refl BM W).setCell (p := ⟨BM, 0, none⟩) (Nat.le_refl _) _
    have hs : (W.setCell ⟨BM, 0, none⟩ (.int .i64 r)).heap.size = W.heap.size := by simp
    have h2 := (h1.alloc (by rw [hs]; omega) (.cells #[.int .i64 0] 3)).alloc (by simp; omega) (.cells #[.int .i64 0] 46)
    exact h2.trans ((below_grow _ g).mono (by simp; omega))
  have HB := hid hB
  clear hB
  simp [Leaves, settle, results, Tryz.results135, go_sem]
  exact HB.out
end Go.Proofs.YtjchnliaglecoaaGreatDoor

/- types.Check at a type that may be. Conditions: names of no monstrous size; the library's variables. -/
namespace Go.Proofs.YtjchnliaglecoaaGreatDoor
open Go Go.RowKit Go.Nodes
set_option linter.unusedVariables false
set_option linter.unusedSimpArgs false
@[go_sem] theorem run_store_func {P : Program} (w : World) (n i : Nat) (fn : Fn) (x y : Array Value) (v : Value) (hc : w.cell? ⟨n, i, none⟩ = some v) (hf : w.frozen? ⟨n, i, none⟩ = false) : (store ⟨n, i, none⟩ (.func fn x y)).run P w = .ok () (w.setCell ⟨n, i, none⟩ (.func fn x y)) := by
  rw [run_store P w _ _ _ rfl, hc]
  simp [hf]
set_option maxRecDepth 100000 in
set_option maxHeartbeats 2000000 in
theorem do136 (V : World) (BM TB : Nat) (r : Int) (k : Int) (np ap : Option Addr) (nn nc an ac : Nat)
    (h0 : V.cell? ⟨BM + 1, 0, none⟩ = some (.func (.func 131) #[] #[.pointer (some ⟨BM, 0, none⟩), .pointer (some ⟨BM + 1, 0, none⟩)]))
    (h1 : V.cell? ⟨TB, 0, none⟩ = some (.int .i64 k)) (h2 : V.cell? ⟨TB, 1, none⟩ = some (.slice np nn nc)) (h3 : V.cell? ⟨TB, 2, none⟩ = some (.slice ap an ac))
    (H : Calls Tryz.prog 131 #[.agg #[.int .i64 k, .slice np nn nc, .slice ap an ac], .int .i64 1, .pointer (some ⟨BM, 0, none⟩), .pointer (some ⟨BM + 1, 0, none⟩)] V (LookPost V BM r)) :
    Calls Tryz.prog 136 #[.pointer (some ⟨BM + 1, 0, none⟩), .pointer (some ⟨TB, 0, none⟩)] V (LookPost V BM r) := by
  have HH := hid H
  clear H
  unfold LookPost at *
  go_enter Tryz.func136, Tryz.ntmps136
  go_wp2_with (go_at_call 131; refine HH.out.mono ?_; rintro e w' ⟨rfl, G, rfl⟩)
  go_end0
  exact ⟨rfl, G, rfl⟩
set_option maxRecDepth 100000 in
set_option maxHeartbeats 4000000 in
theorem check81 (f : Nat) (W : World) (va : List Value) (T : Sk) (hA : TyAt W f va T) (hS : SmallT f T) (hl : Lib0 W) (hok : okT f T = true) :
    Calls Tryz.prog 81 #[.agg va.toArray] W fun e w' => e = .returned (.bool true) ∧ Below W.heap.size W w' := by
  have hmf : ∀ (fn : Fn) (first cap : Array Value) (w : World), (Instr.makeFunc fn first cap).run Tryz.prog w = .ok (.func fn first cap) w := fun _ _ _ _ => rfl
  obtain ⟨r, hr, hr1⟩ : ∃ r, chk f T 1 0 = some r ∧ r ≤ 10000 := by
    unfold okT at hok
    split at hok
    · rename_i n hn; exact ⟨n, hn, of_decide_eq_true hok⟩
    · cases hok
  obtain ⟨np, nn, nc, ap, an, ac, hva, hf1, hf2⟩ := ty_form hA
  clear hf1 hf2
  generalize hk : skK T = k at hva
  clear hk
  obtain ⟨W3, hW3⟩ : ∃ W3, ((W.alloc (.cells #[.int .i64 k, .slice np nn nc, .slice ap an ac] 39)).alloc (.cells #[.int .i64 0] 3)).alloc (.cells #[.func (.func 131) #[] #[.pointer (some ⟨W.heap.size + 1, 0, none⟩), .pointer (some ⟨W.heap.size + 1 + 1, 0, none⟩)]] 166) = W3 := ⟨_, rfl⟩
  have hs3 : W3.heap.size = W.heap.size + 3 := by rw [← hW3]; simp
  have hb3 : Below W.heap.size W W3 := by rw [← hW3]; exact bA (bA (bA (Below.refl _ _) _) _) _
  have a0 : W3.heap[W.heap.size]? = some (.cells #[.int .i64 k, .slice np nn nc, .slice ap an ac] 39 (0, 0)) := by
    rw [← hW3, Below.heap_alloc _ _ _ (by simp; omega), Below.heap_alloc _ _ _ (by simp)]; exact heap_alloc_new _ _
  have a1 : W3.heap[W.heap.size + 1]? = some (.cells #[.int .i64 0] 3 (0, 0)) := by
    rw [← hW3, Below.heap_alloc _ _ _ (by simp)]
    have := heap_alloc_new (W.alloc (.cells #[.int .i64 k, .slice np nn nc, .slice ap an ac] 39)) (.cells #[.int .i64 0] 3)
    simpa using this
  have a2 : W3.heap[W.heap.size + 1 + 1]? = some (.cells #[.func (.func 131) #[] #[.pointer (some ⟨W.heap.size + 1, 0, none⟩), .pointer (some ⟨W.heap.size + 1 + 1, 0, none⟩)]] 166 (0, 0)) := by
    rw [← hW3]
    have := heap_alloc_new ((W.alloc (.cells #[.int .i64 k, .slice np nn nc, .slice ap an ac] 39)).alloc (.cells #[.int .i64 0] 3)) (.cells #[.func (.func 131) #[] #[.pointer (some ⟨W.heap.size + 1, 0, none⟩), .pointer (some ⟨W.heap.size + 1 + 1, 0, none⟩)]] 166)
    simpa using this
  have HG : Hid (Calls Tryz.prog 135 #[.func (.func 136) #[] #[.pointer (some ⟨W.heap.size + 1 + 1, 0, none⟩), .pointer (some ⟨W.heap.size, 0, none⟩)]] W3 fun e w' => e = .returned (.tuple #[.int .i64 0, .int .i64 0]) ∧ Below (W.heap.size + 1) W3 w') := hid (by
    refine guarded135 _ _ W3 (W.heap.size + 1) r (by omega) ?_
    obtain ⟨V, hV⟩ : ∃ V, (W3.alloc (.cells #[.int .i64 0] 3)).alloc (.cells #[.int .i64 0] 46) = V := ⟨_, rfl⟩
    rw [hV]
    have hbV : Below W3.heap.size W3 V := by rw [← hV]; exact bA (bA (Below.refl _ _) _) _
    have b0 := (hbV.block W.heap.size (by omega)).trans a0
    have b1 := (hbV.block (W.heap.size + 1) (by omega)).trans a1
    have b2 := (hbV.block (W.heap.size + 1 + 1) (by omega)).trans a2
    refine do136 V (W.heap.size + 1) W.heap.size r k np ap nn nc an ac (by simp [World.cell?, b2]) (by simp [World.cell?, b0]) (by simp [World.cell?, b0]) (by simp [World.cell?, b0]) ?_
    have := look131 f W va T hA hS hl V (W.heap.size + 1) 1 0 r (by omega) (hb3.trans (hbV.mono hb3.size)) b1 b2 (by omega) (by omega) hr hr1
    rw [hva] at this
    exact this)
  have HB3 := hid hb3
  subst hva
  clear hA hS hl hok hr hr1 a0 a1 a2 hb3 hs3
  have HW3 := hid hW3
  clear hW3
  go_enter Tryz.func81, Tryz.ntmps81
  go_wp2_with (rw [HW3.out]; go_at_call 135; refine HG.out.mono ?_; rintro e w' ⟨rfl, hb⟩; have Hb := hid hb; clear hb)
  go_ret
  exact ⟨rfl, HB3.out.trans (Hb.out.mono (by omega))⟩
end Go.Proofs.YtjchnliaglecoaaGreatDoor

/- The reference's Kinds, walked. Conditions: the type may be. -/
namespace Go.Proofs.YtjchnliaglecoaaGreatDoor
open Go Go.RowKit Go.Nodes
set_option linter.unusedVariables false
set_option linter.unusedSimpArgs false
/-- The bit of a kind of types without parts. -/
def bitK (k : Int) : Int := if k = 0 then 127 else if k = 1 then 1 else if k = 2 then 2 else if k = 3 then 4 else if k = 4 then 8 else if k = 5 then 16 else 64
def orL : List Sk → Int → Int
  | [], n => n
  | T :: l, n => orL l (bits .or .i64 n (bitK (skK T)))
/-- The kinds of a type that may be. -/
def kindsS (T : Sk) : Int := if skK T = 7 then orL (skA T) 0 else if skK T = 8 then 16 else if skK T = 9 then 32 else bitK (skK T)
theorem orL_drop (l : List Sk) (i : Nat) (h : i < l.length) (n : Int) : orL (l.drop i) n = orL (l.drop (i + 1)) (bits .or .i64 n (bitK (skK l[i]))) := by
  rw [List.drop_eq_getElem_cons h]; rfl
/-- What a type that may be is. -/
theorem ok_kind {f : Nat} {T : Sk} (h : okT f T = true) : 0 ≤ skK T ∧ skK T ≤ 9 ∧ (skK T = 7 → unionB 1 (skA T) = true ∧ (skN T).length = 0 ∧ 2 ≤ (skA T).length) ∧ (skK T ≤ 6 → (skN T).length = 0 ∧ (skA T).length = 0) := by
  unfold okT at h
  split at h
  rotate_left
  · cases h
  rename_i n hn
  cases f with
  | zero => cases hn
  | succ f =>
    obtain ⟨k, ns, qs⟩ := T
    simp only [skK, skN, skA]
    unfold chk at hn
    split at hn
    · cases hn
    split at hn
    · rename_i h6
      split at hn
      · rename_i h1
        exact ⟨h6.1, by omega, fun h => by omega, fun _ => h1⟩
      · cases hn
    split at hn
    · rename_i h7
      split at hn
      · rename_i h1
        exact ⟨by omega, by omega, fun _ => h1, fun h => by omega⟩
      · cases hn
    split at hn
    · exact ⟨by omega, by omega, fun h => by omega, fun h => by omega⟩
    split at hn
    · exact ⟨by omega, by omega, fun h => by omega, fun h => by omega⟩
    · cases hn
theorem leaf_ok {W : World} {f : Nat} {k : Int} {np ap : Option Addr} {nn nc an ac : Nat} {T : Sk} (hT : TyAt W f [.int .i64 k, .slice np nn nc, .slice ap an ac] T) (hk : 0 ≤ k) (hk6 : k ≤ 6) (hn : nn = 0) (ha : an = 0) : okT f T = true := by
  unfold okT
  rw [leaf_chk hT hk hk6 hn ha (by omega) (by omega)]
  rfl
theorem bits82 (w : World) : Calls Tryz.prog 82 #[] w fun e w' => e = .returned (.agg #[.int .i64 127, .int .i64 1, .int .i64 2, .int .i64 4, .int .i64 8, .int .i64 16, .int .i64 64]) ∧ Below w.heap.size w w' := by
  go_enter Tryz.func82, Tryz.ntmps82
  go_wp2
  exact ⟨rfl, _, results_cell_row (by rfl) _ _ w.heap.size 127 #[.int .i64 127, .int .i64 1, .int .i64 2, .int .i64 4, .int .i64 8, .int .i64 16, .int .i64 64] (0, 0) _ rfl (heap_alloc_new _ _) Tryz.underlying127 rfl (by kernel_rfl), rfl, bA (Below.refl _ _) _⟩
set_option maxRecDepth 100000 in
set_option maxHeartbeats 4000000 in
theorem kinds18_flat (f : Nat) (W : World) (va : List Value) (T : Sk) (hA : TyAt W f va T) (hS : SmallT f T) (hok : okT f T = true) (h7 : skK T ≠ 7) :
    Calls Tryz.prog 18 #[.agg va.toArray] W fun e w' => e = .returned (.int .i64 (kindsS T)) ∧ Below W.heap.size W w' := by
  have Hc : Hid (∀ W', Below W.heap.size W W' → Calls Tryz.prog 15 #[.agg va.toArray] W' fun e w2 => e = .returned (.bool true) ∧ Below W'.heap.size W' w2) := hid fun W' hb => by
    have := rcheck15 f W' va T (TyAt.later hb f _ _ hA) hS
    rwa [hok] at this
  obtain ⟨h0, h9, _, _⟩ := ok_kind hok
  obtain ⟨np, nn, nc, ap, an, ac, rfl, hf1, hf2⟩ := ty_form hA
  have HR : Hid (kindsS T = if skK T = 8 then 16 else if skK T = 9 then 32 else bitK (skK T)) := hid (by unfold kindsS; rw [if_neg h7])
  generalize kindsS T = R at *
  clear hf1 hf2 hA hS hok
  generalize skK T = k at *
  have hks : k = 0 ∨ k = 1 ∨ k = 2 ∨ k = 3 ∨ k = 4 ∨ k = 5 ∨ k = 6 ∨ k = 8 ∨ k = 9 := by omega
  clear h0 h9 h7
  rcases hks with rfl | rfl | rfl | rfl | rfl | rfl | rfl | rfl | rfl
  all_goals
    have hr := HR.out
    simp [bitK] at hr
    subst hr
    clear HR
    go_enter Tryz.func18, Tryz.ntmps18
    go_wp2_with (go_at_call 15; refine (Hc.out _ (by repeat (first | exact Below.refl _ _ | refine bN ?_ _ | refine bD ?_ | refine bG ?_ _ | refine bI ?_ _ _ | refine bA ?_ _))).mono ?_; rintro e w' ⟨rfl, hb⟩; obtain ⟨G, rfl⟩ := bout hb; clear hb)
    go_ret
    exact ⟨rfl, by repeat (first | exact Below.refl _ _ | refine bN ?_ _ | refine bD ?_ | refine bG ?_ _ | refine bI ?_ _ _ | refine bA ?_ _)⟩
set_option maxRecDepth 100000 in
set_option maxHeartbeats 4000000 in
theorem kinds18 (f : Nat) (W : World) (va : List Value) (T : Sk) (hA : TyAt W f va T) (hS : SmallT f T) (hok : okT f T = true) :
    Calls Tryz.prog 18 #[.agg va.toArray] W fun e w' => e = .returned (.int .i64 (kindsS T)) ∧ Below W.heap.size W w' := by
  by_cases h7 : skK T = 7
  rotate_left
  · exact kinds18_flat f W va T hA hS hok h7
  have Hc : Hid (∀ W', Below W.heap.size W W' → Calls Tryz.prog 15 #[.agg va.toArray] W' fun e w2 => e = .returned (.bool true) ∧ Below W'.heap.size W' w2) := hid fun W' hb => by
    have := rcheck15 f W' va T (TyAt.later hb f _ _ hA) hS
    rwa [hok] at this
  obtain ⟨_, _, h7u, _⟩ := ok_kind hok
  have HU : Hid (∀ j, j < (skA T).length → unionAt 1 (skA T) j = true) := hid fun j hj => by
    have hU := (h7u h7).1
    unfold unionB at hU
    rw [List.all_eq_true] at hU
    exact hU j (List.mem_range.2 hj)
  clear h7u
  cases f with
  | zero => exact hA.elim
  | succ f =>
    obtain ⟨k, ns, qs⟩ := T
    obtain ⟨_, l1, l2, np, nc, ap, ac, rfl, hn, ha⟩ := hA
    simp only [skA, skK] at HU h7
    subst h7
    have HR : Hid (kindsS (.mk 7 ns qs) = orL qs 0) := hid rfl
    generalize kindsS (.mk 7 ns qs) = R at *
    unfold SmallT at hS
    have Hs := hid hS.2
    have Ha := hid ha
    unfold maxLen at l1 l2
    obtain ⟨u, hu⟩ : ∃ u, u = ns.length := ⟨_, rfl⟩
    obtain ⟨v, hv⟩ : ∃ v, v = qs.length := ⟨_, rfl⟩
    rw [← hu, ← hv] at Hc ⊢
    have p2 : (v : Int) ≤ 9223372036854775807 := by omega
    have Hv := hid hv
    clear hS ha hn l1 l2 hu hv hok
    go_enter Tryz.func18, Tryz.ntmps18
    go_wp2_with (go_at_call 15; refine (Hc.out _ (by repeat (first | exact Below.refl _ _ | refine bN ?_ _ | refine bD ?_ | refine bG ?_ _ | refine bI ?_ _ _ | refine bA ?_ _))).mono ?_; rintro e w' ⟨rfl, hb⟩; obtain ⟨G, rfl⟩ := bout hb; clear hb)
    go_loopw [3, 18] (fun nv iv wr => ∃ (i : Nat) (n : Int) (G : Gro), i ≤ v ∧ iv = .int .i64 i ∧ nv = .int .i64 n ∧ wr = grow W G ∧ Hid (orL (qs.drop i) n = R)) (fun _ iv _ => v - (intOf iv).toNat)
    case atStart => exact ⟨0, 0, _, Nat.zero_le _, rfl, rfl, below_grow2 (by repeat (first | exact Below.refl _ _ | refine bN ?_ _ | refine bD ?_ | refine bG ?_ _ | refine bI ?_ _ _ | refine bA ?_ _)), hid HR.out.symm⟩
    case round =>
      obtain ⟨i, n, G2, hi, rfl, rfl, rfl, hI⟩ := hrel
      by_cases hin : i < v
      · have hix : i < qs.length := by have := Hv.out; omega
        have i0 : (0 : Int) ≤ (i : Int) := by omega
        have i1 : (i : Int) < (v : Int) := by omega
        obtain ⟨b1, o1, k2, np2, nn2, nc2, ap2, an2, ac2, rfl, hb1, c0, c1, c2, hT⟩ := ty_cells Ha.out hix
        obtain ⟨t1, t2, t3⟩ := ty_kind hT
        have hU := HU.out i hix
        have hle := (lastK_ge (d := 1) (qs := qs) (i := i) (fun j hj => HU.out j (by omega))).1
        unfold unionAt at hU
        rw [argAt_of hix, t1, t2, t3] at hU
        simp only [Bool.and_eq_true, decide_eq_true_eq] at hU
        obtain ⟨⟨⟨⟨q1, q2⟩, q3⟩, q4⟩, q5⟩ := hU
        subst q4 q5
        have HL : Hid (∀ W', Below W.heap.size W W' → Calls Tryz.prog 18 #[.agg #[.int .i64 k2, .slice np2 0 nc2, .slice ap2 0 ac2]] W' fun e w2 => e = .returned (.int .i64 (bitK k2)) ∧ Below W'.heap.size W' w2) := hid fun W' hb => by
          have := kinds18_flat f W' _ qs[i] (TyAt.later hb f _ _ hT) (Hs.out _ (List.getElem_mem hix)) (leaf_ok hT (by omega) q3 rfl rfl) (by rw [t1]; omega)
          unfold kindsS at this
          rwa [t1, if_neg (by omega), if_neg (by omega), if_neg (by omega)] at this
        have Hd := hid (orL_drop qs i hix n)
        rw [hI.out, t1] at Hd
        clear hT t1 t2 t3 hI hi q1 q2 q3 hle
        generalize bitK k2 = z at *
        go_wp2_with (go_at_call 18; refine (HL.out _ (by repeat (first | exact Below.refl _ _ | refine bN ?_ _ | refine bD ?_ | refine bG ?_ _ | refine bI ?_ _ _ | refine bA ?_ _))).mono ?_; rintro e w' ⟨rfl, hb⟩; obtain ⟨G3, rfl⟩ := bout hb; clear hb)
        go_roundw
        case rel => exact ⟨i + 1, _, _, by omega, by go_num, rfl, below_grow2 (by repeat (first | exact Below.refl _ _ | refine bN ?_ _ | refine bD ?_ | refine bG ?_ _ | refine bI ?_ _ _ | refine bA ?_ _)), hid Hd.out.symm⟩
        case measure => simp [intOf]; omega
      · obtain rfl : i = v := by omega
        have h2 : n = R := by have := hI.out; rw [List.drop_of_length_le (by have := Hv.out; omega)] at this; exact this
        have H2 := hid h2
        clear h2 hI hi hin
        go_wp2
        go_ret
        exact ⟨by rw [← H2.out]; rfl, by repeat (first | exact Below.refl _ _ | refine bN ?_ _ | refine bD ?_ | refine bG ?_ _ | refine bI ?_ _ _ | refine bA ?_ _)⟩
end Go.Proofs.YtjchnliaglecoaaGreatDoor
