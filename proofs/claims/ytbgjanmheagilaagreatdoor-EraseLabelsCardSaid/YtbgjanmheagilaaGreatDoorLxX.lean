/- Nodes alike with their places: the law's same, at nodes that are alike. Conditions: none. -/
import Derived.Test.YtbgjanmheagilaaGreatDoorSrX
import Derived.Test.YtbgjanmheagilaaGreatDoorLpX
set_option linter.unusedVariables false
set_option linter.unusedSimpArgs false
namespace Go.Proofs.YtbgjanmheagilaaGreatDoor
open Go Go.RowKit Go.Nodes
set_option linter.unusedVariables false
set_option linter.unusedSimpArgs false
theorem strip_len {xs ys : List Nd} (h : xs.map strip = ys.map strip) : xs.length = ys.length := by
  have := congrArg List.length h
  simpa using this
theorem strip_at {xs ys : List Nd} (h : xs.map strip = ys.map strip) (i : Nat) (x y : Nd) (hx : xs[i]? = some x) (hy : ys[i]? = some y) : strip x = strip y := by
  have h1 : (xs.map strip)[i]? = (ys.map strip)[i]? := by rw [h]
  rw [List.getElem?_map, List.getElem?_map, hx, hy] at h1
  exact Option.some.inj h1
theorem same_of_strip {xs ys : List Nd} (h : xs.map strip = ys.map strip) : sameB xs ys = true := by
  unfold sameB
  refine @decide_eq_true _ (Classical.propDecidable _) ⟨strip_len h, fun i x y hx hy => ?_⟩
  have h2 := strip_at h i x y hx hy
  unfold strip at h2
  simp only [Prod.mk.injEq] at h2
  exact ⟨h2.1, h2.2.1, h2.2.2.1⟩
theorem flatN_get : ∀ (os : List Nd) (i : Nat) (h : i < os.length) (j : Nat), j < 4 → (flatN os)[i * 4 + j]? = (cellsN os[i])[j]?
  | [], i, h, j, hj => by simp at h
  | x :: os, 0, h, j, hj => by
    show (cellsN x ++ flatN os)[0 * 4 + j]? = _
    rw [List.getElem?_append_left (by simp [cellsN]; omega)]
    simp
  | x :: os, i + 1, h, j, hj => by
    show (cellsN x ++ flatN os)[(i + 1) * 4 + j]? = _
    rw [List.getElem?_append_right (by simp [cellsN]; omega), show (i + 1) * 4 + j - (cellsN x).length = i * 4 + j by simp [cellsN]; omega]
    exact flatN_get os i (by simpa using h) j hj
/-- Nodes that were laid, as an argument. -/
theorem nodesAt_own {W : World} {B : Nat} {v : Value} {os : List Nd} (hO : W.ownsRow B 30 4 v os.length (flatN os)) (hK : ∀ x ∈ os, Ints B W (.slice x.kp x.kids.length x.kcap) x.kids)
    (hm : os.length ≤ maxLen) (hf : ∀ x ∈ os, i64 x.kind ∧ i64 x.place ∧ x.text.size ≤ maxLen ∧ x.kids.length ≤ maxLen ∧ ∀ k ∈ x.kids, i64 k) : ∃ p cap, v = .slice p os.length cap ∧ NodesAt W p os := by
  have hfine : ∀ x ∈ os, x.fine W := fun x hx => by
    obtain ⟨f1, f2, f3, f4, f5⟩ := hf x hx
    obtain ⟨p, c, e1, e2⟩ := (hK x hx).out
    cases e1
    exact ⟨f1, f2, f3, f4, f5, e2⟩
  rcases hO.2 with ⟨hv, h0⟩ | ⟨g, cap, cur, hv, hB, hg, hnc, _, hsz, htk⟩
  · have : os = [] := List.length_eq_zero_iff.1 h0
    subst this
    exact ⟨none, 0, hv, by simp, by simp, .inl rfl⟩
  · refine ⟨_, _, hv, hm, hfine, .inr ⟨g, 0, rfl, (Array.getElem?_eq_some_iff.1 hg).1, fun i hi => ?_⟩⟩
    have hget : ∀ j, j < 4 → cur[i * 4 + j]? = (cellsN os[i])[j]? := fun j hj => by
      rw [← flatN_get os i hi j hj, ← htk, List.getElem?_take_of_lt (by omega)]
      simp
    refine ⟨?_, ?_, ?_, ?_⟩
    · have := hget 0 (by omega)
      simp only [Nat.add_zero] at this
      simp [World.cell?, hg, this, cellsN]
    · simp [World.cell?, hg, hget 1 (by omega), cellsN]
    · simp [World.cell?, hg, hget 2 (by omega), cellsN]
    · simp [World.cell?, hg, hget 3 (by omega), cellsN]
set_option maxRecDepth 100000 in
set_option maxHeartbeats 2000000 in
theorem same14_any (p q : Option Addr) (c d L : Nat) (xs ys : List Nd) (w : World) (ha : NodesAt w p xs) (hb : NodesAt w q ys) (he : xs.map strip = ys.map strip) (hx : xs.length = L) (hy : ys.length = L) (hL : L ≤ 100000) :
    Calls Tryz.prog 14 #[.slice p L c, .slice q L d] w fun e w' => e = .returned (.bool true) ∧ Below w.heap.size w w' := by
  have HR : Hid (∀ w', Below w.heap.size w w' → Calls Tryz.prog 32 #[.slice p L c, .slice q L d] w' fun e w2 => e = .returned (.bool true) ∧ Below w'.heap.size w' w2) := hid fun w' h => by
    have := rsame_any p q c d xs ys w' (NodesAt.later ha h) (NodesAt.later hb h)
    rwa [same_of_strip he, hx, hy] at this
  have Ha := hid ha
  have Hb := hid hb
  have HE := hid (strip_at he)
  have HX := hid hx
  have HY := hid hy
  clear ha hb he hx hy
  go_enter Tryz.func14, Tryz.ntmps14
  go_wp2_with (go_at_call 32; ((with_reducible refine (HR.out _ (by repeat (first | exact Below.refl _ _ | refine bG ?_ _ | refine bA ?_ _ | refine bD ?_ | refine bN ?_ _))).mono ?_)); rintro e w' ⟨rfl, hb⟩; obtain ⟨g1, rfl⟩ := bout hb; clear hb)
  go_loopw [12] (fun iv wr => ∃ j : Nat, j ≤ L ∧ iv = .int .i64 j ∧ Below w.heap.size w wr) (fun iv _ => L - (intOf iv).toNat)
  case atStart => exact ⟨0, Nat.zero_le _, rfl, by repeat (first | exact Below.refl _ _ | refine bG ?_ _ | refine bA ?_ _ | refine bD ?_ | refine bN ?_ _)⟩
  case round =>
    obtain ⟨j, hj, rfl, hB⟩ := hrel
    by_cases hlt : j < L
    · have hjx : j < xs.length := by have := HX.out; omega
      have hjy : j < ys.length := by have := HY.out; omega
      obtain ⟨b, o, rfl, hbl, hnz, hfine, c0, c1, c2, c3⟩ := nd_at (NodesAt.later Ha.out hB) hjx
      obtain ⟨b', o', rfl, hbl', hnz', hfine', d0, d1, d2, d3⟩ := nd_at (NodesAt.later Hb.out hB) hjy
      have hs := HE.out j _ _ hnz hnz'
      have hpl : xs[j].place = ys[j].place := by unfold strip at hs; simp only [Prod.mk.injEq] at hs; exact hs.2.2.2
      rw [← hpl] at d3
      have j0 : (0 : Int) ≤ (j : Int) := by omega
      have j1 : (j : Int) < (L : Int) := by omega
      have HB := hid hB
      clear hnz hnz' hfine hfine' hs hpl hB
      generalize xs[j].kind = kd at *
      generalize xs[j].text = tx at *
      generalize xs[j].kp = kp at *
      generalize xs[j].kids.length = q at *
      generalize xs[j].kcap = kc at *
      generalize xs[j].place = pl at *
      generalize ys[j].kind = kd' at *
      generalize ys[j].text = tx' at *
      generalize ys[j].kp = kp' at *
      generalize ys[j].kids.length = q' at *
      generalize ys[j].kcap = kc' at *
      go_wp2
      go_quiet (fail)
      go_wp2
      go_roundw
      case rel => exact ⟨j + 1, by omega, by go_num, by have := HB.out; repeat (first | exact Below.refl _ _ | exact HB.out | refine bG ?_ _ | refine bI ?_ _ _ | refine bA ?_ _ | refine bD ?_ | refine bN ?_ _)⟩
      case measure => simp [intOf]; omega
    · obtain rfl : j = L := by omega
      have HB := hid hB
      clear hB
      go_wp2
      go_ret
      exact ⟨rfl, HB.out⟩
end Go.Proofs.YtbgjanmheagilaaGreatDoor

/- erase.Labels, walked. Conditions: the sizes that a program may hold. -/
namespace Go.Proofs.YtbgjanmheagilaaGreatDoor
open Go Go.RowKit Go.Nodes Go.WideMaps Go.Maps
set_option linter.unusedVariables false
set_option linter.unusedSimpArgs false
attribute [local go_sem] Oper.semAt_some
def GoodP (pre : List (Int × Bool)) : Prop := ∀ (i : Nat) (h : i < pre.length), pre[i].1 = (i : Int)
theorem GoodP.snoc {pre : List (Int × Bool)} {x : Int × Bool} (h : GoodP (pre ++ [x])) : GoodP pre ∧ x.1 = (pre.length : Int) :=
  ⟨fun i hi => by have := h i (by simp; omega); rwa [List.getElem_append_left hi] at this, by have := h pre.length (by simp); simpa using this⟩
/-- What lies at the head of each round. -/
def Jl (w : World) (p : Option Addr) (L c : Nat) (ns : List Nd) (Mb Pb Tb : Nat) (pre : List (Int × Bool)) (W : World) : Prop :=
  (Boxed W w.heap.size 22 (.slice p L c) ∧ Boxed W Tb 50 (.pointer (some ⟨Pb, 0, none⟩))) ∧ Below w.heap.size w W ∧
    ∃ os n D, n ≤ pre.length ∧ os.length ≤ pre.length ∧ LaidX Mb Pb Mb W os n D ∧ (GoodP pre → MapRel ns pre.length (labS ns pre.length).1 D ∧ os.map strip = (labS ns pre.length).2)
theorem laidx_grown {B Pb Mb n : Nat} {D : DataW Unit} {W W' : World} {os : List Nd} {row : Option Nat} (h : LaidX B Pb Mb W os n D) (hg : W.grownBy W' row) (hr : ∀ r, row = some r → Mb < r ∧ ∃ o : Obj, W.heap[r]? = some o ∧ o.isCells = false) : LaidX B Pb Mb W' os n D := by
  obtain ⟨⟨v, hP, hO⟩, hM, hK, hPB, hMB⟩ := h
  have hne : ∀ (b : Nat) (c : Array Value) (t : Nat) (fz : Nat × Nat), W.heap[b]? = some (.cells c t fz) → some b ≠ row := fun b c t fz hb e => by
    obtain ⟨_, o, ho, hc⟩ := hr b e.symm
    rw [hb] at ho; cases ho; cases hc
  have hrow : ∀ {e : TypeId} {size : Nat} {v : Value} {n : Nat} {xs : List Value}, W.ownsRow B e size v n xs → W'.ownsRow B e size v n xs := fun {e size v n xs} h => by
    refine h.kept hg ?_
    cases hv : v.ownBlock with
    | none => exact .inl rfl
    | some g =>
      obtain ⟨c, fz, hh⟩ := Lib.ownsRow_kind h g hv
      exact .inr (hne _ _ _ _ hh)
  exact ⟨⟨v, (hg.block Pb (Array.getElem?_eq_some_iff.1 hP).1 (hne _ _ _ _ hP)).trans hP, hrow hO⟩, hM.kept hg fun e => by have := (hr Mb e.symm).1; omega, fun x hx => hrow (hK x hx), hPB, hMB⟩
theorem jl_own {B : Nat} (w : World) (p : Option Addr) (L c : Nat) (ns : List Nd) (Mb Pb Tb : Nat) (hM : Mb < B) (h : w.heap.size ≤ B) : OwnFrom B (Jl w p L c ns Mb Pb Tb) :=
  OwnFrom.and (OwnFrom.and (Own.from (boxed_own _ _ _) _) (Own.from (boxed_own _ _ _) _)) (OwnFrom.and (ownFrom_below (Nat.le_refl _) h)
    (fun pre W W' row hs hg hr => by obtain ⟨os, n, D, h1, h2, h3, h4⟩ := hs; exact ⟨os, n, D, h1, h2, laidx_grown h3 hg fun r e => ⟨by have := (hr r e).1; omega, (hr r e).2⟩, h4⟩))
theorem jl_below {w W W' : World} {p : Option Addr} {L c Mb Pb Tb : Nat} {ns : List Nd} {pre : List (Int × Bool)} (h : Jl w p L c ns Mb Pb Tb pre W) (hb : W.grownBy W' none) : Jl w p L c ns Mb Pb Tb pre W' := by
  obtain ⟨h1, h2, os, n, D, h3, h4, h5, h6⟩ := h
  exact ⟨⟨h1.1.kept hb (by simp), h1.2.kept hb (by simp)⟩, h2.grown hb h2.size (fun r e => nomatch e), os, n, D, h3, h4, laidx_grown h5 hb (fun r e => nomatch e), h6⟩
/-- A channel is passed by. -/
theorem jl_skip {w W : World} {p : Option Addr} {L c Mb Pb Tb : Nat} {ns : List Nd} {pre : List (Int × Bool)} {x : Int × Bool} {z : Nat} {nd : Nd} (h : Jl w p L c ns Mb Pb Tb pre W) (hz : x.1 = (z : Int)) (hnz : ns[z]? = some nd) (hk : nd.kind = 2) : Jl w p L c ns Mb Pb Tb (pre ++ [x]) W := by
  obtain ⟨h1, h2, os, n, D, h3, h4, h5, h6⟩ := h
  refine ⟨h1, h2, os, n, D, by simp; omega, by simp; omega, h5, fun hg => ?_⟩
  obtain ⟨g1, g2⟩ := hg.snoc
  obtain ⟨r1, r2⟩ := h6 g1
  obtain rfl : z = pre.length := by omega
  have hlen := labS_len ns pre.length (Nat.le_of_lt (List.getElem?_eq_some_iff.1 hnz).1)
  have hkk : kindAt ns (pre.length : Int) = 2 := by unfold kindAt; rw [Int.toNat_natCast, hnz]; exact hk
  rw [List.length_append, show [x].length = 1 from rfl, labS_2 hnz hk]
  exact ⟨mapRel_skip r1 hlen hkk, r2⟩
/-- A node is laid. -/
theorem jl_put {w W W' : World} {p : Option Addr} {L c Mb Pb Tb : Nat} {ns : List Nd} {pre : List (Int × Bool)} {x : Int × Bool} {z : Nat} {nd : Nd} {os : List Nd} {n : Nat} {D : DataW Unit} {kp' : Option Addr} {kc' : Nat}
    (hb : Boxed W w.heap.size 22 (.slice p L c)) (ht : Boxed W Tb 50 (.pointer (some ⟨Pb, 0, none⟩))) (hB : Below w.heap.size w W) (hz : x.1 = (z : Int)) (hnz : ns[z]? = some nd) (hk : nd.kind ≠ 36) (hk2 : nd.kind ≠ 2) (hkids : ∀ k ∈ nd.kids, 0 ≤ k ∧ k < (z : Int))
    (h3 : n ≤ pre.length) (h4 : os.length ≤ pre.length) (h6 : GoodP pre → MapRel ns pre.length (labS ns pre.length).1 D ∧ os.map strip = (labS ns pre.length).2)
    (hMw : w.heap.size ≤ Mb) (hL : LaidX Mb Pb Mb W' (os ++ [⟨nd.kind, nd.text, kp', kc', kidsD D nd.kids, nd.place⟩]) (n + 1) (D.put (.int .i64 (z : Int)) (.lit (.int .i64 (os.length : Int))))) (hK : Ke Mb Mb W W') : Jl w p L c ns Mb Pb Tb (pre ++ [x]) W' := by
  refine ⟨⟨hK.2.cells _ _ _ (by decide) (by decide) hb, hK.2.cells _ _ _ (by decide) (by decide) ht⟩, hB.trans (hK.1.mono hMw), _, _, _, by simp; omega, by simp; omega, hL, fun hg => ?_⟩
  obtain ⟨g1, g2⟩ := hg.snoc
  obtain ⟨r1, r2⟩ := h6 g1
  obtain rfl : z = pre.length := by omega
  have hlen := labS_len ns pre.length (Nat.le_of_lt (List.getElem?_eq_some_iff.1 hnz).1)
  have hkk : kindAt ns (pre.length : Int) ≠ 2 := by unfold kindAt; rw [Int.toNat_natCast, hnz]; exact hk2
  have hol : os.length = (labS ns pre.length).2.length := by rw [← r2, List.length_map]
  rw [List.length_append, show [x].length = 1 from rfl, labS_put hnz hk hk2]
  refine ⟨?_, ?_⟩
  · rw [← hol]; exact mapRel_put r1 hlen _ hkk
  · rw [List.map_append, r2]
    show _ ++ [(nd.kind, nd.text, kidsD D nd.kids, nd.place)] = _
    rw [kidsD_eq r1 _ hkids]
/-- A round that notes a place alone. -/
theorem jl_map {w W W' : World} {p : Option Addr} {L c Mb Pb Tb : Nat} {ns : List Nd} {pre : List (Int × Bool)} {x : Int × Bool} {z : Nat} {nd : Nd} {os : List Nd} {n : Nat} {D : DataW Unit} {u cv : Int}
    (h1 : Boxed W w.heap.size 22 (.slice p L c)) (h2 : Boxed W Tb 50 (.pointer (some ⟨Pb, 0, none⟩))) (hB : Below w.heap.size w W) (hz : x.1 = (z : Int)) (hnz : ns[z]? = some nd) (hk : nd.kind = 36) (hu : u = nd.kids.getD 0 0) (hu0 : 0 ≤ u) (huz : u < (z : Int))
    (h3 : n ≤ pre.length) (h4 : os.length ≤ pre.length) (hL : LaidX Mb Pb Mb W os n D) (h6 : GoodP pre → MapRel ns pre.length (labS ns pre.length).1 D ∧ os.map strip = (labS ns pre.length).2)
    (hcv : valD D u = cv) (hg : W.grownBy W' (some Mb)) (hM : MapOwn W' Mb (n + 1) (D.put (.int .i64 (z : Int)) (.lit (.int .i64 cv)))) (hMw : w.heap.size ≤ Mb) : Jl w p L c ns Mb Pb Tb (pre ++ [x]) W' ∧ Ke Mb Mb W W' := by
  obtain ⟨⟨v, hP, hO⟩, hM0, hKd, hPB, hMB⟩ := hL
  obtain ⟨es, clk, hMh, _⟩ := id hM0
  have hlt : Mb < W.heap.size := (Array.getElem?_eq_some_iff.1 hMh).1
  have hKe : Ke Mb Mb W W' := by
    refine ⟨(Below.refl _ _).grown hg (by omega) (fun k e => by cases e; exact Nat.le_refl _), ⟨fun b cs t _ _ hh => ?_, fun b o hb _ hh => ?_⟩⟩
    · exact (hg.block b (Array.getElem?_eq_some_iff.1 hh).1 (fun e => by cases e; rw [hh] at hMh; cases hMh)).trans hh
    · exact (hg.block b (Array.getElem?_eq_some_iff.1 hh).1 (fun e => by cases e; exact hb rfl)).trans hh
  refine ⟨⟨⟨hKe.2.cells _ _ _ (by decide) (by decide) h1, hKe.2.cells _ _ _ (by decide) (by decide) h2⟩, hB.trans (hKe.1.mono hMw), os, n + 1, _, by simp; omega, by simp; omega, ⟨⟨v, ?_, hO.kept hg ?_⟩, hM, fun y hy => ints_keepT (hKd y hy) hKe.2, hPB, hMB⟩, fun hgd => ?_⟩, hKe⟩
  · exact (hg.block Pb (Array.getElem?_eq_some_iff.1 hP).1 (fun e => by cases e; rw [hP] at hMh; cases hMh)).trans hP
  · cases hv : v.ownBlock with
    | none => exact .inl rfl
    | some g =>
      obtain ⟨c, fz, hh⟩ := Lib.ownsRow_kind hO g hv
      exact .inr fun e => by cases e; rw [hh] at hMh; cases hMh
  · obtain ⟨g1, g2⟩ := hgd.snoc
    obtain ⟨r1, r2⟩ := h6 g1
    obtain rfl : z = pre.length := by omega
    have hlen := labS_len ns pre.length (Nat.le_of_lt (List.getElem?_eq_some_iff.1 hnz).1)
    have hkk : kindAt ns (pre.length : Int) ≠ 2 := by unfold kindAt; rw [Int.toNat_natCast, hnz]; show nd.kind ≠ 2; rw [hk]; decide
    obtain ⟨y, rfl⟩ : ∃ y : Nat, u = (y : Int) := ⟨u.toNat, by omega⟩
    have hval := ((r1.2 y).1 (by omega)).2
    rw [List.length_append, show [x].length = 1 from rfl, labS_36 hnz hk, ← hu, Int.toNat_natCast, ← hval, hcv]
    exact ⟨mapRel_put r1 hlen _ hkk, r2⟩
def PutPostX (w : World) (p : Option Addr) (L c : Nat) (ns : List Nd) (Mb : Nat) (pre : List (Int × Bool)) (x : Int × Bool) (W6 : World) (e : Ending) (w' : World) : Prop :=
  e = .returned (.tuple #[]) ∧ Hid (Jl w p L c ns Mb (Mb + 1) (Mb + 2) (pre ++ [x]) w' ∧ Ke Mb Mb W6 w')
set_option maxRecDepth 100000 in
set_option maxHeartbeats 4000000 in
theorem labels12_any (p : Option Addr) (c : Nat) (ns : List Nd) (w : World) (ha : NodesAt w p ns) (hs : Small ns) (hc : Capped ns) (hl0 : Lib0 w) :
    Calls Tryz.prog 12 #[.slice p ns.length c] w fun e w' => Below w.heap.size w w' ∧ ∃ v n, e = .returned (.tuple #[v, .int .i64 n]) ∧
      n = (checkS ns).2 ∧ ((n ≠ 0 ∧ v = .slice none 0 0) ∨ (n = 0 ∧ Sound ns ∧ ∃ B os, w.heap.size ≤ B ∧ os.map strip = (labS ns ns.length).2 ∧ w'.ownsRow B 30 4 v os.length (flatN os) ∧ ∀ x ∈ os, Ints B w' (.slice x.kp x.kids.length x.kcap) x.kids)) := by
  have hmm := @run_makeMap Tryz.prog
  have hdd : ∀ k : Nat, (Fence.wide.depth.isSome = true → 1 ≤ k) := fun k h => by cases h
  obtain ⟨n1, hn1⟩ : ∃ n1, (checkS ns).1 = n1 := ⟨_, rfl⟩
  obtain ⟨n2, hn2⟩ : ∃ n2, (checkS ns).2 = n2 := ⟨_, rfl⟩
  have F1 : Hid (∀ w', Below w.heap.size w w' → CallsIn Fence.wide 2 Tryz.prog 27 #[.slice p ns.length c] w' (ErrPost n1 n2 w')) := hid fun w' h => callsIn_wide.2 (by have := check_any w' p c ns hs hc (NodesAt.later ha h) (hl0.later h); rw [hn1, hn2] at this; exact this)
  obtain ⟨L, hL⟩ : ∃ L, L = ns.length := ⟨_, rfl⟩
  rw [← hL] at F1 ⊢
  have HL := hid hL
  have Ha := hid ha
  have Hs := hid hs
  have Hc := hid hc
  have Hn2 := hid hn2
  clear hL ha hl0 hs hc hn1 hn2
  refine (callsIn_wide (n := 3)).1 ?_
  refine callsIn_of_wp_marks Tryz.func12 rfl trivial ?_ rfl
  simp only [Tryz.ntmps12, List.size_toArray, List.length_cons, List.length_nil, Nat.reduceAdd, Nat.reduceSub, Array.replicate_succ, Array.replicate_zero, List.push_toArray, List.append_toArray, List.nil_append, List.cons_append]
  by_cases e0 : n2 = 0
  · subst e0
    have Hsd := hid (sound_of Hn2.out)
    gi_wp2_with (first
      | (refine ⟨trivial, ?_⟩; (try refine ⟨hdd _, ?_⟩); gi_at_call 27; ((with_reducible refine (F1.out _ ?_).mono ?_); rotate_left; rintro e w' ⟨rfl, hb⟩; obtain ⟨g1, rfl⟩ := bout hb; clear hb))
      | (refine ⟨trivial, ?_⟩; (try refine ⟨hdd _, ?_⟩); gi_at_call 28; refine (callsIn_wide.2 (each_any _ _ _ _)).mono ?_; rintro e w' ⟨rfl, rfl⟩))
    all_goals (try (repeat (first | exact Below.refl _ _ | refine bG ?_ _ | refine bI ?_ _ _ | refine bA ?_ _)))
    obtain ⟨Wm, hWm⟩ : ∃ Wm, grow (w.alloc (.cells #[.slice p L c] 22)) g1 = Wm := ⟨_, rfl⟩
    have hsz : Wm.heap.size = w.heap.size + 1 + g1.size := by rw [← hWm]; simp
    have hbm : Below w.heap.size w Wm := by rw [← hWm]; repeat (first | exact Below.refl _ _ | refine bG ?_ _ | refine bI ?_ _ _ | refine bA ?_ _)
    have hbx : Boxed Wm w.heap.size 22 (.slice p L c) := by rw [← hWm]; exact boxed_grow (Boxed.new w 22 _) _
    rw [hWm, ← hsz]
    clear hWm
    obtain ⟨Mb, hMb⟩ : ∃ Mb, Wm.heap.size = Mb := ⟨_, rfl⟩
    rw [hMb]
    obtain ⟨W5, hW5⟩ : ∃ W5, (((Wm.alloc (.map #[] 0)).alloc (.cells #[.map (some Mb), .slice none 0 0] 53)).alloc (.cells #[.pointer (some ⟨Mb + 1, 0, none⟩)] 50)).alloc (.cells #[.slice p L c] 22) = W5 := ⟨_, rfl⟩
    rw [hW5]
    have hS5 : W5.heap.size = Mb + 4 := by rw [← hW5]; simp [hMb]
    have hB5 : Below Mb Wm W5 := by rw [← hW5, ← hMb]; repeat (first | exact Below.refl _ _ | refine bG ?_ _ | refine bI ?_ _ _ | refine bA ?_ _)
    have hMw : w.heap.size + 1 ≤ Mb := by omega
    have hM0 := (((World.ownsMap_made Wm Tryz.prog 3 (plainElem (H := Unit) Tryz.prog 3)).alloc (.cells #[.map (some Mb), .slice none 0 0] 53)).alloc (.cells #[.pointer (some ⟨Mb + 1, 0, none⟩)] 50)).alloc (.cells #[.slice p L c] 22)
    rw [hW5, hMb] at hM0
    have hJ0 : Jl w p L c ns Mb (Mb + 1) (Mb + 2) [] W5 := by
      refine ⟨⟨?_, ?_⟩, hbm.trans (hB5.mono (by omega)), [], 0, _, Nat.zero_le _, Nat.le_refl _, ⟨⟨.slice none 0 0, ?_, by simp [flatN], .inl ⟨rfl, by simp⟩⟩, hM0, (fun x hx => nomatch hx), by omega, Nat.le_refl _⟩, fun _ => ⟨mapRel_nil ns, rfl⟩⟩
      · rw [← hW5]; exact (((hbx.alloc _).alloc _).alloc _).alloc _
      · rw [← hW5]
        have h1 := (Boxed.new ((Wm.alloc (.map #[] 0)).alloc (.cells #[.map (some Mb), .slice none 0 0] 53)) 50 (.pointer (some ⟨Mb + 1, 0, none⟩))).alloc (.cells #[.slice p L c] 22)
        have h2 : ((Wm.alloc (.map #[] 0)).alloc (.cells #[.map (some Mb), .slice none 0 0] 53)).heap.size = Mb + 2 := by simp [hMb]
        rw [h2] at h1
        exact h1
      · rw [← hW5, ← hMb]
        have h1 : (Wm.alloc (.map #[] 0)).heap.size = Wm.heap.size + 1 := by simp
        rw [Below.heap_alloc _ _ _ (by simp), Below.heap_alloc _ _ _ (by simp), ← h1]
        exact heap_alloc_new _ _
    have hBl5 : Boxed W5 (Mb + 3) 22 (.slice p L c) := by
      rw [← hW5]
      have h1 := Boxed.new (((Wm.alloc (.map #[] 0)).alloc (.cells #[.map (some Mb), .slice none 0 0] 53)).alloc (.cells #[.pointer (some ⟨Mb + 1, 0, none⟩)] 50)) 22 (.slice p L c)
      have h2 : (((Wm.alloc (.map #[] 0)).alloc (.cells #[.map (some Mb), .slice none 0 0] 53)).alloc (.cells #[.pointer (some ⟨Mb + 1, 0, none⟩)] 50)).heap.size = Mb + 3 := by simp [hMb]
      rw [h2] at h1
      exact h1
    clear hW5 hsz
    rename_i K hK
    refine wpIn_rangeFunc_ownG (n := 3) rfl (by omega) (gf := 59) (lb := #[.pointer (some ⟨Mb + 3, 0, none⟩)]) rfl trivial (enters_of Tryz.func59 (by kernel_rfl) rfl)
      (each_stops (3 - 1) (Mb + 3) ns p c Wm (NodesAt.later Ha.out hbm) Hs.out Hsd.out W5 (by rw [hMb]; exact hB5) hBl5.lt (by rw [← HL.out]; exact hBl5.cell)) kc_t (kc_b (by omega)) (Below.refl _ _) (fun _ => rfl)
      (fun pre W6 => pre.length ≤ L ∧ Jl w p L c ns Mb (Mb + 1) (Mb + 2) (vals pre) W6)
      (fun cc pre W6 => False)
      (OwnFrom.and (ownFrom_pure _ _) (fun s X Y row h hg hr => jl_own w p L c ns Mb (Mb + 1) (Mb + 2) (by omega) (by omega) (vals s) X Y row h hg hr)) (fun cc => ownFrom_pure _ _) ⟨Nat.zero_le _, hJ0⟩
      (fun x => { tmps := List.toArray (.slice p L c :: .pointer (some ⟨w.heap.size, 0, none⟩) :: .slice none 0 0 :: .int .i64 0 :: .int .i64 n1 :: .int .i64 0 :: .pointer (some ⟨Mb + 2, 0, none⟩) :: .int .i64 x.1.1 :: .tuple #[.int .i64 n1, .int .i64 0] :: .slice p L c :: .tuple #[.int .i64 n1, .int .i64 0] :: .int .i64 n1 :: .int .i64 0 :: .int .i64 0 :: .bool false :: undef :: .map (some Mb) :: .agg #[.map (some Mb), .slice none 0 0] :: .pointer (some ⟨Mb + 1, 0, none⟩) :: .slice p L c :: .func (.func 59) #[] #[.pointer (some ⟨Mb + 3, 0, none⟩)] :: .int .i64 x.1.1 :: .bool x.1.2 :: undef :: undef :: undef :: undef :: undef :: undef :: undef :: undef :: undef :: undef :: undef :: undef :: undef :: undef :: undef :: undef :: undef :: undef :: undef :: undef :: undef :: undef :: undef :: undef :: undef :: undef :: undef :: undef :: undef :: undef :: undef :: undef :: undef :: undef :: undef :: undef :: undef :: []), defers := [] }) ?assign2 ?body2 ?done2 ?stop2
    case assign2 =>
      intro l x W K hK
      dsimp only [enc3]
      gi_wp2
      simpa [enc3] using hK
    case stop2 =>
      intro D cc pre W _ _ h
      exact h.elim
    case body2 =>
      rintro l pre ⟨⟨xi, xt⟩, hx0, hx1, hx2⟩ W6 ⟨hple, hj⟩ hlen
      obtain ⟨z, rfl⟩ : ∃ z : Nat, xi = (z : Int) := ⟨xi.toNat, by simp at hx0; omega⟩
      have hz : z < ns.length := by simp at hx1; omega
      have hzL : (z : Int) < (L : Int) := by have := HL.out; omega
      have z0 : (0 : Int) ≤ (z : Int) := by omega
      have hLs : L ≤ 5000 := by have := HL.out; have := Hs.out.1; omega
      have hpl : pre.length + 1 ≤ L := by have := HL.out; omega
      have Hj := hid hj
      obtain ⟨⟨hbx6, htx6⟩, hB6, os, n, D, hn, hosl, hLd, hrel⟩ := hj
      have hMl : Mb < W6.heap.size := hLd.map.lt
      have hvl : (vals pre).length = pre.length := by simp [vals]
      have c1 := hbx6.cell
      have c6 := htx6.cell
      obtain ⟨b, o, rfl, hbl, hnz, hfine, k0, k1, k2, k3⟩ := nd_at (NodesAt.later Ha.out hB6) hz
      have HE : Hid (∀ (y : EachOf ns) (W' : World), y.1 = ((z : Int), xt) → Jl w (some ⟨b, o, none⟩) L c ns Mb (Mb + 1) (Mb + 2) (vals pre ++ [((z : Int), xt)]) W' → Ke Mb Mb W6 W' →
          KeepsFrom W5.heap.size W6 W' ∧ Kc Wm.heap.size W6 W' ∧ (pre ++ [y]).length ≤ L ∧ Jl w (some ⟨b, o, none⟩) L c ns Mb (Mb + 1) (Mb + 2) (vals (pre ++ [y])) W') := hid fun y W' hy hj hk =>
        ⟨hk.from (by omega), by rw [hMb]; exact hk.kc, by rw [List.length_append]; exact hpl, by rw [vals_snoc, hy]; exact hj⟩
      have hwl := hbx6.lt
      have hTl := htx6.lt
      have hnb : n ≤ 100000 := by omega
      have hob : os.length ≤ 100000 := by omega
      have hsn := Hsd.out z _ hnz
      by_cases h2 : ns[z].kind = 2
      · have hsk := hid (jl_skip (x := ((z : Int), xt)) Hj.out rfl hnz h2)
        rw [h2] at k0
        clear hrel hLd hfine hsn h2 k1 k2 k3 hbx6 htx6
        gi_wp2
        exact HE.out _ _ rfl hsk.out (ke_refl _ _ _)
      · by_cases h36 : ns[z].kind = 36
        · obtain ⟨bk, ok, hkp, hbk, ck⟩ := kid_at hfine (j := 0) (hsn.2.2.2 h36)
          have h0 := hsn.2.2.2 h36
          have hum : ns[z].kids.getD 0 0 ∈ ns[z].kids := by rw [List.getD, List.getElem?_eq_getElem h0]; exact List.getElem_mem h0
          have hu : i64 (ns[z].kids.getD 0 0) := hfine.2.2.2.2.1 _ hum
          obtain ⟨hu0, huz⟩ := hsn.1 _ hum
          have q0 : (0 : Int) < (ns[z].kids.length : Int) := by omega
          have q2 : ¬ (ns[z].kids.length : Int) ≤ 0 := by omega
          have q3 : ns[z].kids.length ≠ 0 := by omega
          have hM := hLd.map
          have hPw := hLd.box
          obtain ⟨v, hPw, _⟩ := hPw
          have ck0 : W6.cell? ⟨bk, ok, none⟩ = some (.int .i64 (ns[z].kids.getD 0 0)) := ck
          have HX : Hid (∀ (cv : Int) (W7 : World), valD D (ns[z].kids.getD 0 0) = cv → W6.drew.grownBy W7 (some Mb) → MapOwn W7 Mb (n + 1) (D.put (.int .i64 (z : Int)) (.lit (.int .i64 cv))) →
              Jl w (some ⟨b, o, none⟩) L c ns Mb (Mb + 1) (Mb + 2) (vals pre ++ [((z : Int), xt)]) W7 ∧ Ke Mb Mb W6 W7) := hid fun cv W7 e1 e2 e3 => by
            have hx := jl_map (W := W6.drew) (x := ((z : Int), xt)) hbx6 htx6 hB6.drew rfl hnz h36 rfl hu0 huz hn hosl (laidx_grown hLd (gb_drew _) (fun r e => nomatch e)) hrel e1 e2 e3 (by omega)
            exact ⟨hx.1, ke_drew hx.2⟩
          rw [h36] at k0
          rw [hkp] at k2
          generalize ns[z].kids.getD 0 0 = u at *
          generalize ns[z].kids.length = q at *
          have hkeyu := keyOf_int_mk (P := Tryz.prog) (k := 3) Tryz.underlying3 (show (Lit.int .i64 u).wf = true from WalkArith.wf_i64 hu)
          have hkeyz := keyOf_int_mk (P := Tryz.prog) (k := 3) Tryz.underlying3 (show (Lit.int .i64 (z : Int)).wf = true from WalkArith.wf_i64 (by omega))
          obtain ⟨cv, hrun, hat, hcw⟩ := hM.drew.lookup_int klaw Tryz.underlying51 Tryz.underlying3 (zero3 _) hkeyu
          have Hv := hid (valD_of hat)
          have cP0 : W6.cell? ⟨Mb + 1, 0, none⟩ = some (.map (some Mb)) := by simp [World.cell?, hPw]
          have hPl := (Array.getElem?_eq_some_iff.1 hPw).1
          have HM := hid hM
          clear hM hPw hkp hnz hfine k1 k3 hLd hrel hbx6 htx6 h36 h2 hsn hum hat Hj
          gi_wp2
          (refine wpIn_region_still_tail 17 (by kernel_rfl) (by kernel_rfl) (by kernel_rfl) ?_; simp only [List.take_succ_cons, List.take_zero, List.drop_succ_cons, List.drop_zero]; (repeat still_step); try refine wpStill_nil ?_)
          go_wp2_with (at_mapUpdate; refine wpList_mapUpdate_own _ rfl _ _ _ 51 rfl 3 3 klaw Tryz.underlying51 _ Mb n D rfl HM.out.drew (by unfold maxLen; omega) _ _ _ rfl rfl hkeyz _ [] (plainElem_int Tryz.underlying3 hcw) ?_)
          intro W7 hM7 hg7
          have hfin := hid (HX.out cv W7 Hv.out hg7 hM7)
          clear hM7 hg7
          go_wp2
          exact HE.out _ _ rfl hfin.out.1 hfin.out.2
        · have H13 : Hid (∀ W, Below W6.heap.size W6 W → Calls Tryz.prog 29 #[.pointer (some ⟨Mb + 1, 0, none⟩), .int .i64 (z : Int), .agg #[.int .i64 ns[z].kind, .string ns[z].text, .slice ns[z].kp ns[z].kids.length ns[z].kcap, .int .i64 ns[z].place]] W (PutPostX w (some ⟨b, o, none⟩) L c ns Mb (vals pre) ((z : Int), xt) W6)) :=
            hid fun W hW => by
              obtain ⟨_, _, _, _, _, hf, _⟩ := nd_at (NodesAt.later Ha.out (hB6.trans (hW.mono hB6.size))) hz
              refine (put_ex Mb (Mb + 1) Mb os n D hob hnb ns[z].kind ns[z].text ns[z].kp ns[z].kcap ns[z].place ns[z].kids hf.2.2.2.2.1 (Hs.out.2 _ (List.getElem_mem hz)).1 W hf.2.2.2.2.2 (z : Int) ⟨by omega, by omega⟩ (laidx_grown hLd (gb_below hW) (fun r e => nomatch e))).mono fun e w' ⟨h1, ⟨kp', kc', h3⟩, h4, h5⟩ => ⟨h1, hid ?_⟩
              have hKe : Ke Mb Mb W6 w' := ke_t (ke_below hW (by omega)) ⟨h4, h5⟩
              exact ⟨jl_put hbx6 htx6 hB6 rfl hnz h36 h2 hsn.1 hn hosl hrel (by omega) h3 hKe, hKe⟩
          have hk36 : (ns[z].kind == 36) = false := by simp [h36]
          have hk2 : (ns[z].kind == 2) = false := by simp [h2]
          clear hnz hfine hLd hrel hbx6 htx6 h36 h2 hsn Hj
          generalize ns[z].kind = kd at *
          generalize ns[z].text = tx at *
          generalize ns[z].kp = kp at *
          generalize ns[z].kids.length = q at *
          generalize ns[z].kcap = kc at *
          generalize ns[z].place = pl at *
          gi_wp2
          (refine wpIn_region_still_tail 6 (by kernel_rfl) (by kernel_rfl) (by kernel_rfl) ?_; simp only [List.take_succ_cons, List.take_zero, List.drop_succ_cons, List.drop_zero]; (repeat still_step); try refine wpStill_nil ?_)
          go_wp2_with (go_at_call 29; ((with_reducible refine (H13.out _ ?_).mono ?_); rotate_left; rintro e w' ⟨rfl, Hw⟩))
          · exact HE.out _ _ rfl Hw.out.1 Hw.out.2
          · exact Below.drew (Below.refl _ _)
    case done2 =>
      rintro D ys W hD hys ⟨hyl, hj⟩ hdf
      refine hK _ _ ?_
      obtain ⟨⟨hbx6, htx6⟩, hB6, os, n, D', _, _, ⟨⟨v, hPw, hO⟩, _, hKd, _, _⟩, hrel⟩ := hj
      have hos := (hrel fun i hi => (hys.2 i hi).1).2
      rw [hys.1] at hos
      have c6 := htx6.cell
      have cP1 : W.cell? ⟨Mb + 1, 1, none⟩ = some v := by simp [World.cell?, hPw]
      have Hfin := hid (show Below w.heap.size w (W.putObj D (.deferred none)) ∧ (W.putObj D (.deferred none)).ownsRow Mb 30 4 v os.length (flatN os) ∧ (∀ x ∈ os, Ints Mb (W.putObj D (.deferred none)) (.slice x.kp x.kids.length x.kcap) x.kids) from by
        have hrow : ∀ {e : TypeId} {size : Nat} {v : Value} {n : Nat} {xs : List Value}, W.ownsRow Mb e size v n xs → (W.putObj D (.deferred none)).ownsRow Mb e size v n xs := fun {e size v n xs} h => by
          refine h.kept (grownBy_putObj' _ D _) ?_
          cases hv : v.ownBlock with
          | none => exact .inl rfl
          | some g =>
            obtain ⟨c, fz, hh⟩ := Lib.ownsRow_kind h g hv
            exact .inr fun e => by cases e; rw [hh] at hdf; cases hdf
        exact ⟨hB6.trans (belowK_b (w := w) (Nat.le_refl _) _ D _ _ (by omega) hdf rfl rfl), hrow hO, fun x hx => hrow (hKd x hx)⟩)
      have Hos := hid hos
      have Hys := hid hys
      clear hos hys hO hKd hrel
      gi_wp2
      refine ⟨by simp, .inl ⟨_, _, rfl, run_takeDeferred hdf, ?_⟩⟩
      refine ⟨.tuple #[v, .int .i64 0], ?_, Hfin.out.1, _, _, rfl, Hn2.out.symm, .inr ⟨rfl, Hsd.out, Mb, os, by omega, by rw [HL.out]; exact Hos.out, Hfin.out.2.1, Hfin.out.2.2⟩⟩
      simp [results, Tryz.f12, go_sem]
  · have hne : (n2 != 0) = true := by simp [e0]
    have He := hid e0
    clear e0
    gi_wp2_with (first
      | (refine ⟨trivial, ?_⟩; (try refine ⟨hdd _, ?_⟩); gi_at_call 27; ((with_reducible refine (F1.out _ ?_).mono ?_); rotate_left; rintro e w' ⟨rfl, hb⟩; obtain ⟨g1, rfl⟩ := bout hb; clear hb)))
    all_goals (try (repeat (first | exact Below.refl _ _ | refine bG ?_ _ | refine bI ?_ _ _ | refine bA ?_ _)))
    refine ⟨.tuple #[.slice none 0 0, .int .i64 n2], ?_, ?_, _, _, rfl, Hn2.out.symm, .inl ⟨He.out, rfl⟩⟩
    · simp [results, Tryz.f12, go_sem]
    · repeat (first | exact Below.refl _ _ | refine bG ?_ _ | refine bI ?_ _ _ | refine bA ?_ _)
end Go.Proofs.YtbgjanmheagilaaGreatDoor
