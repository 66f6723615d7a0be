/- flow.Reach, walked. Conditions: none. -/
import Derived.Test.YtjocifamacpamaaFlowTh
import Derived.Laws.AppendOwn
import Derived.Test.YtjocifamacpamaaBaseB
import Derived.Laws.AppendOwnNone
import Derived.WalkMore
import Derived.Deep.RegionHeld3
namespace Go.Proofs.Ytjocifamacpamaa
open Go.RowKit
set_option linter.unusedVariables false
set_option linter.unusedSimpArgs false
set_option maxHeartbeats 2000000 in
theorem flowReach_nil (v0 v1 v3 v4 v5 : Value) (p : Option Addr) (cap : Nat) (w : World) :
    Calls Try.prog 28 #[.agg #[v0, v1, .slice p 0 cap, v3, v4, v5]] w fun e w' => e = .returned (.slice none 0 0) ∧ Below w.heap.size w w' := by
  go_enter Try.func28, Try.ntmps28
  go_wp2
  go_ret
  exact ⟨rfl, by repeat (first | exact Below.refl _ _ | refine bG ?_ _ | refine bI ?_ _ _ | refine bA ?_ _)⟩
set_option maxRecDepth 10000 in
set_option maxHeartbeats 2000000 in
theorem flowReach_some (v0 v1 v3 v4 v5 : Value) (b o len cap : Nat) (ws : Nat → Int) (hws : ∀ i, i < len → 0 ≤ ws i ∧ ws i < 4294967296) (hl : len ≤ 40) (h0 : 0 < len) (w : World) (hb : b < w.heap.size)
    (hc : ∀ i, i < len → w.cell? ⟨b, o + i, none⟩ = some (.int .u32 (ws i))) (k0 : Nat) (hk0 : k0 ≤ 1000) (R : List Bool)
    (hR : fromF (fun i => nextS len (ws i) i) (-1) k0 [0] (List.replicate len false) = some R) :
    Calls Try.prog 28 #[.agg #[v0, v1, .slice (some ⟨b, o, none⟩) len cap, v3, v4, v5]] w fun e w' => ∃ v, e = .returned v ∧ Below w.heap.size w w' ∧ w'.ownsRow w.heap.size 4 1 v len (R.map Value.bool) := by
  have Hws := hid hws
  have Hc := hid hc
  have HR := hid hR
  clear hws hc hR
  have hne : ((len : Int) == 0) = false := by rw [beq_eq_false_iff_ne]; omega
  go_enter Try.func28, Try.ntmps28
  go_wp2_with (go_at_call 48; refine (from_any v0 v1 v3 v4 v5 b o len cap w.heap.size ws Hws.out hl _ hb (by simp; omega) (fun i hi => cell_later (by repeat (first | exact Below.refl _ _ | refine bG ?_ _ | refine bI ?_ _ _ | refine bA ?_ _)) (Hc.out i hi)) _ [0] (Ints_one _ _ _ _ (by simp) (by simp)) (by simp; omega) (-1) k0 R (by simp; omega) HR.out).mono ?_; rintro e w2 ⟨v, rfl, hb2, ho2⟩)
  go_ret
  refine ⟨v, rfl, Below.trans ?_ hb2, ?_⟩
  · repeat (first | exact Below.refl _ _ | refine bG ?_ _ | refine bI ?_ _ _ | refine bA ?_ _)
  · obtain ⟨q1, q2⟩ := ho2
    refine ⟨q1, ?_⟩
    rcases q2 with q2 | ⟨g, cp, cur, hv, hg, hr⟩
    · exact .inl q2
    · exact .inr ⟨g, cp, cur, hv, by simp at hg; omega, hr⟩
end Go.Proofs.Ytjocifamacpamaa

/- flow.nexts, walked. Conditions: none. -/
namespace Go.Proofs.Ytjocifamacpamaa
open Go.RowKit
set_option linter.unusedVariables false
set_option linter.unusedSimpArgs false
/-- The words of a function, as they lie. -/
structure Wds (base : Nat) (w : World) (p : Option Addr) (len : Nat) (ws : Nat → Int) : Prop where
  few : len ≤ 40
  wf : ∀ i, i < len → 0 ≤ ws i ∧ ws i < 4294967296
  lie : 0 < len → ∃ b o, p = some ⟨b, o, none⟩ ∧ b < base ∧ ∀ i, i < len → w.cell? ⟨b, o + i, none⟩ = some (.int .u32 (ws i))
theorem Wds.below {base : Nat} {w w' : World} {p : Option Addr} {len : Nat} {ws : Nat → Int} (h : Wds base w p len ws) (hb : Below base w w') : Wds base w' p len ws :=
  ⟨h.few, h.wf, fun h0 => by
    obtain ⟨b, o, e, h1, h2⟩ := h.lie h0
    exact ⟨b, o, e, h1, fun i hi => (hb.cell (p := ⟨b, o + i, none⟩) h1).trans (h2 i hi)⟩⟩
theorem Wds.next {base : Nat} {w : World} {p : Option Addr} {len : Nat} {ws : Nat → Int} (h : Wds base w p len ws) (v0 v1 v3 v4 v5 : Value) (cap i : Nat) (hi : i < len) (hbase : base ≤ w.heap.size) :
    Calls Try.prog 24 #[.agg #[v0, v1, .slice p len cap, v3, v4, v5], .int .i64 i] w fun e w' => ∃ v, e = .returned v ∧ Below w.heap.size w w' ∧ Ints w.heap.size w' v (nextS len (ws i) i) := by
  obtain ⟨b, o, rfl, h1, h2⟩ := h.lie (by omega)
  have := h.few
  exact next_inn v0 v1 v3 v4 v5 b o len cap i (ws i) (h.wf i hi).1 (h.wf i hi).2 hi (by omega) w (by omega) (h2 i hi)
/-- Rows of ints, one behind the other. -/
def Rows2 (B : Nat) (w : World) (cs : List Value) (ls : List (List Int)) : Prop := cs.length = ls.length ∧ ∀ (i : Nat) (v : Value) (l : List Int), cs[i]? = some v → ls[i]? = some l → Ints B w v l
theorem Rows2.below {B : Nat} {w w' : World} {cs : List Value} {ls : List (List Int)} (h : Rows2 B w cs ls) (hb : Below w.heap.size w w') : Rows2 B w' cs ls :=
  ⟨h.1, fun i v l h1 h2 => Ints_below (h.2 i v l h1 h2) hb⟩
theorem Try.infoS : (Try.prog.info? 46).map (fun i => (i.zero, i.size, i.bytes)) = some (some (.slice none 0 0), 1, 24) := by kernel_rfl
theorem Ints_base' {B B' : Nat} {w : World} {v : Value} {l : List Int} (h : Ints B w v l) (hB : B' ≤ B) : Ints B' w v l := by
  obtain ⟨h1, h2⟩ := h
  refine ⟨h1, ?_⟩
  rcases h2 with h2 | ⟨g, cap, cur, hv, hg, hh, hr⟩
  · exact Or.inl h2
  · exact Or.inr ⟨g, cap, cur, hv, by omega, hh, hr⟩
theorem set_heap {w : World} {g i : Nat} {v : Value} {cs : List Value} {e : TypeId} (h : w.heap[g]? = some (.cells cs.toArray e (0, 0))) : (w.setCell ⟨g, i, none⟩ v).heap[g]? = some (.cells (cs.set i v).toArray e (0, 0)) := by
  simp [World.setCell, Array.getElem?_modify, h]
theorem Ints_set {B : Nat} {w : World} {v u : Value} {l : List Int} {g i : Nat} {e : TypeId} {cs : Array Value} (h : Ints B w v l) (hg : w.heap[g]? = some (.cells cs e (0, 0))) (he : e ≠ 3) : Ints B (w.setCell ⟨g, i, none⟩ u) v l := by
  obtain ⟨h1, h2⟩ := h
  refine ⟨h1, ?_⟩
  rcases h2 with h2 | ⟨g', cap, cur, hv, hg', hh, hr⟩
  · exact Or.inl h2
  · refine Or.inr ⟨g', cap, cur, hv, hg', ?_, hr⟩
    rw [Below.heap_setCell _ _ _ _ (by
      intro e2
      simp at e2
      subst e2
      rw [hg] at hh
      injection hh with hh
      injection hh with _ hh _
      exact he hh)]
    exact hh
theorem set_app {k len : Nat} {cs : List Value} {z v : Value} (hcs : cs.length = k) (hlt : k < len) : (cs ++ List.replicate (len - k) z).set k v = (cs ++ [v]) ++ List.replicate (len - (k + 1)) z := by
  subst hcs
  rw [List.set_append_right _ _ (Nat.le_refl _), Nat.sub_self, show len - cs.length = (len - (cs.length + 1)) + 1 by omega, List.replicate_succ, List.set_cons_zero, List.append_assoc]
  rfl
theorem Rows2.snoc {B : Nat} {w : World} {cs : List Value} {ls : List (List Int)} {v : Value} {l : List Int} (h : Rows2 B w cs ls) (hv : Ints B w v l) : Rows2 B w (cs ++ [v]) (ls ++ [l]) := by
  refine ⟨by simp [h.1], fun i u m hu hm => ?_⟩
  rw [List.getElem?_append] at hu hm
  rw [h.1] at hu
  split at hu
  · rename_i hi
    rw [if_pos hi] at hm
    exact h.2 i u m hu hm
  · rename_i hi
    rw [if_neg hi] at hm
    cases hj : i - ls.length with
    | zero => rw [hj] at hu hm; simp at hu hm; subst hu; subst hm; exact hv
    | succ j => rw [hj] at hu; simp at hu
theorem Rows2.set {B : Nat} {w : World} {cs : List Value} {ls : List (List Int)} {g i : Nat} {e : TypeId} {u : Value} {c : Array Value} (h : Rows2 B w cs ls) (hg : w.heap[g]? = some (.cells c e (0, 0))) (he : e ≠ 3) : Rows2 B (w.setCell ⟨g, i, none⟩ u) cs ls :=
  ⟨h.1, fun j v l hv hl => Ints_set (h.2 j v l hv hl) hg he⟩
theorem cell_app {w : World} {g k len : Nat} {e : TypeId} {cs : List Value} {z : Value} (hO : w.heap[g]? = some (.cells (cs ++ List.replicate (len - k) z).toArray e (0, 0))) (hcs : cs.length = k) (hlt : k < len) :
    w.cell? ⟨g, k, none⟩ = some z ∧ w.frozen? ⟨g, k, none⟩ = false := by
  subst hcs
  have : 0 < len - cs.length := by omega
  constructor
  · simp [World.cell?, hO, List.getElem?_append_right, this]
  · simp [World.frozen?, hO]
set_option maxRecDepth 10000 in
set_option maxHeartbeats 4000000 in
theorem nexts_any (v0 v1 v3 v4 v5 : Value) (p : Option Addr) (len cap : Nat) (ws : Nat → Int) (w : World) (hw : Wds w.heap.size w p len ws) :
    Calls Try.prog 42 #[.agg #[v0, v1, .slice p len cap, v3, v4, v5]] w fun e w' => ∃ g cs, e = .returned (.slice (some ⟨g, 0, none⟩) len len) ∧ Below w.heap.size w w' ∧ w.heap.size ≤ g ∧
      w'.heap[g]? = some (.cells cs.toArray 46 (0, 0)) ∧ Rows2 w.heap.size w' cs ((List.range len).map fun i : Nat => nextS len (ws i) i) := by
  obtain ⟨iS, hiS, zS0, zS1, zS2⟩ := info_parts Try.infoS
  have hl := hw.few
  have Hw := hid hw
  clear hw
  go_enter Try.func42, Try.ntmps42
  go_wp2_with (refine wpList_make_full _ rfl _ _ 71 rfl w.heap.size 46 iS (.slice none 0 0) 1 Try.underlying71 hiS zS0 zS1 .i64 .i64 _ _ len rfl rfl rfl rfl ?_ ?_ ?_ ?_)
  · rw [zS2]; omega
  · unfold maxLen; omega
  · simp
  intro w1 hO hG
  obtain ⟨g1, rfl⟩ := make_out hO hG (by simp)
  clear hO hG
  go_wp2
  obtain ⟨cs0, hcs0⟩ : ∃ cs0 : List Value, cs0 = List.replicate len (.slice none 0 0) := ⟨_, rfl⟩
  have hmade : madeCells #[Value.slice none 0 0] len = cs0.toArray := by
    rw [hcs0]; apply Array.toList_inj.1; rw [toList_madeCells_one]
  rw [hmade]
  clear hmade
  have Hcs0 := hid hcs0
  clear hcs0
  go_loopw [11] (fun i wr => ∃ (k : Nat) (cs : List Value), k ≤ len ∧ i = .int .i64 k ∧ Below w.heap.size w wr ∧ wr.heap[w.heap.size]? = some (.cells #[v0, v1, .slice p len cap, v3, v4, v5] 48 (0, 0)) ∧
    wr.heap[w.heap.size + 1]? = some (.cells (cs ++ List.replicate (len - k) (Value.slice none 0 0)).toArray 46 (0, 0)) ∧ Hid (cs.length = k) ∧ Rows2 w.heap.size wr cs ((List.range k).map fun i : Nat => nextS len (ws i) i)) (fun i _ => len - (intOf i).toNat)
  case atStart =>
    have hb0 : Below w.heap.size w (grow ((w.alloc (.cells #[v0, v1, .slice p len cap, v3, v4, v5] 48)).alloc (.cells cs0.toArray 46)) g1) := by
      repeat (first | exact Below.refl _ _ | refine bG ?_ _ | refine bI ?_ _ _ | refine bA ?_ _)
    refine ⟨0, [], by omega, rfl, hb0, ?_, ?_, rfl, rfl, fun i v l h => by simp at h⟩
    · rw [heap_grow _ _ _ (by simp; omega), heap_alloc_old _ _ (by simp)]
      exact heap_alloc_new _ _
    · rw [List.nil_append, Nat.sub_zero, ← Hcs0.out]
      rw [heap_grow _ _ _ (by simp)]
      have := heap_alloc_new (w.alloc (.cells #[v0, v1, .slice p len cap, v3, v4, v5] 48)) (.cells cs0.toArray 46)
      rwa [show (w.alloc (.cells #[v0, v1, .slice p len cap, v3, v4, v5] 48)).heap.size = w.heap.size + 1 by simp] at this
  case round =>
    obtain ⟨k, cs, hk, rfl, hB, hP, hO, Hcs, hR⟩ := hrel
    by_cases hlt : k < len
    · have hn := (Hw.out.below hB).next v0 v1 v3 v4 v5 cap k hlt hB.size
      have Hn := hid hn
      clear hn
      have hc0 : wr.cell? ⟨w.heap.size, 0, none⟩ = some v0 := by simp [World.cell?, hP]
      have hc1 : wr.cell? ⟨w.heap.size, 1, none⟩ = some v1 := by simp [World.cell?, hP]
      have hc2 : wr.cell? ⟨w.heap.size, 2, none⟩ = some (.slice p len cap) := by simp [World.cell?, hP]
      have hc3 : wr.cell? ⟨w.heap.size, 3, none⟩ = some v3 := by simp [World.cell?, hP]
      have hc4 : wr.cell? ⟨w.heap.size, 4, none⟩ = some v4 := by simp [World.cell?, hP]
      have hc5 : wr.cell? ⟨w.heap.size, 5, none⟩ = some v5 := by simp [World.cell?, hP]
      have HB := hid hB
      have HP := hid hP
      have HO := hid hO
      have HR := hid hR
      clear hB hP hO hR
      have hk0 : (0 : Int) ≤ (k : Int) := by omega
      have hk1 : (k : Int) < (len : Int) := by omega
      go_wp2_with (go_at_call 24; refine Hn.out.mono ?_; rintro e w2 ⟨nv, rfl, hb2, hI2⟩; have hb2' := hid hb2; have hI2' := hid hI2; obtain ⟨np, nc, rfl, _⟩ := hI2.out; clear hI2; have hO2 := (hb2.block (w.heap.size + 1) (Array.getElem?_eq_some_iff.1 HO.out).1).trans HO.out; have HO2 := hid hO2; obtain ⟨hcc, hff⟩ := cell_app hO2 Hcs.out hlt; clear hb2 hO2 hc0 hc1 hc2 hc3 hc4 hc5)
      go_roundw
      case rel =>
        have hs := HB.out.size
        refine ⟨k + 1, cs ++ [.slice np (nextS len (ws k) k).length nc], by omega, by go_num, (HB.out.trans (hb2'.out.mono hs)).setCell (by simp) _, ?_, ?_, hid (by simp [Hcs.out]), ?_⟩
        · rw [Below.heap_setCell _ _ _ _ (by simp)]
          exact (hb2'.out.block _ (Array.getElem?_eq_some_iff.1 HP.out).1).trans HP.out
        · rw [set_heap HO2.out, set_app Hcs.out hlt]
        · rw [List.range_succ, List.map_append]
          exact ((HR.out.below hb2'.out).snoc (Ints_base' hI2'.out hs)).set HO2.out (by decide)
      case measure => simp [intOf]; omega
    · go_wp2
      go_ret
      obtain rfl : k = len := by omega
      rw [Nat.sub_self, List.replicate_zero, List.append_nil] at hO
      exact ⟨w.heap.size + 1, cs, rfl, hB, by omega, hO, hR⟩
end Go.Proofs.Ytjocifamacpamaa

/- flow.common, walked. Conditions: none. -/
namespace Go.Proofs.Ytjocifamacpamaa
open Go.RowKit
set_option linter.unusedVariables false
set_option linter.unusedSimpArgs false
/-- A set, as it lies from block B on. -/
def SetAt (B : Nat) (w : World) : Value → Option Nat → Prop
  | v, none => v = .slice none 0 0
  | v, some s => ∃ g, v = .slice (some ⟨g, 0, none⟩) 1 1 ∧ B ≤ g ∧ w.heap[g]? = some (.cells #[.int .u64 s] 88 (0, 0)) ∧ s < 18446744073709551616
/-- Sets, one behind the other. -/
def Sets (B : Nat) (w : World) (cs : List Value) (out : List (Option Nat)) : Prop := cs.length = out.length ∧ ∀ (i : Nat) (v : Value) (o : Option Nat), cs[i]? = some v → out[i]? = some o → SetAt B w v o
theorem SetAt.below {B : Nat} {w w' : World} {v : Value} {o : Option Nat} (h : SetAt B w v o) (hb : Below w.heap.size w w') : SetAt B w' v o := by
  cases o with
  | none => exact h
  | some s =>
    obtain ⟨g, e, h1, h2, h3⟩ := h
    exact ⟨g, e, h1, by rw [hb.block g (Array.getElem?_eq_some_iff.1 h2).1]; exact h2, h3⟩
theorem Sets.below {B : Nat} {w w' : World} {cs : List Value} {out : List (Option Nat)} (h : Sets B w cs out) (hb : Below w.heap.size w w') : Sets B w' cs out :=
  ⟨h.1, fun i v o h1 h2 => (h.2 i v o h1 h2).below hb⟩
theorem Sets.get {B : Nat} {w : World} {cs : List Value} {out : List (Option Nat)} (h : Sets B w cs out) {i : Nat} (hi : i < out.length) : ∃ v, cs[i]? = some v ∧ SetAt B w v (out.getD i none) := by
  have hi' : i < cs.length := by rw [h.1]; exact hi
  exact ⟨cs[i], List.getElem?_eq_getElem hi', h.2 i _ _ (List.getElem?_eq_getElem hi') (by simp [List.getD, hi])⟩
theorem Try.infoU : (Try.prog.info? 88).map (fun i => (i.zero, i.size, i.bytes)) = some (some (.int .u64 0), 1, 8) := by kernel_rfl
theorem meet_take (l : List Int) (out : List (Option Nat)) (s k : Nat) (hk : k < l.length) : meetS (l.take (k + 1)) out s = match out.getD (l[k]).toNat none with
    | some t => meetS (l.take k) out s &&& t
    | none => meetS (l.take k) out s := by
  unfold meetS
  rw [← List.take_append_getElem hk, List.foldl_append]
  rfl
theorem meet_lt (out : List (Option Nat)) : ∀ (l : List Int) (s : Nat), s < 18446744073709551616 → meetS l out s < 18446744073709551616 := by
  intro l
  induction l with
  | nil => intro s h; exact h
  | cons b l ih =>
    intro s h
    have e : meetS (b :: l) out s = meetS l out (match out.getD b.toNat none with
      | some t => s &&& t
      | none => s) := rfl
    rw [e]
    refine ih _ ?_
    split
    · exact Nat.lt_of_le_of_lt Nat.and_le_left h
    · exact h
set_option maxRecDepth 10000 in
set_option maxHeartbeats 4000000 in
theorem common_any (B : Nat) (v1 : Value) (l : List Int) (hl0 : l ≠ []) (hl : l.length ≤ 100) (cs : List Value) (out : List (Option Nat)) (ob len cap : Nat) (hlen : out.length = len) (hl64 : len ≤ 64) (hin : ∀ x ∈ l, -1 ≤ x ∧ x < len) (w : World) (hT : Ints B w v1 l)
    (hO : w.heap[ob]? = some (.cells cs.toArray 76 (0, 0))) (hS : Sets B w cs out) :
    Calls Try.prog 44 #[v1, .slice (some ⟨ob, 0, none⟩) len cap, .int .i64 1] w fun e w' => ∃ g, e = .returned (.slice (some ⟨g, 0, none⟩) 1 1) ∧ Below w.heap.size w w' ∧ w.heap.size ≤ g ∧
      w'.heap[g]? = some (.cells #[.int .u64 (commonS l out : Nat)] 88 (0, 0)) := by
  obtain ⟨iU, hiU, zU0, zU1, zU2⟩ := info_parts Try.infoU
  obtain ⟨fp, fc, rfl, hfp⟩ := hT.out
  obtain ⟨fb, fo, rfl, _, hfb, hfc⟩ := hfp hl0
  have hgd : ∀ j, j < l.length → w.cell? ⟨fb, fo + j, none⟩ = some (.int .i64 (l.getD j 0)) := fun j hj => by
    rw [hfc j hj]; simp [List.getD, hj]
  clear hfp hT hfc
  have Hgd := hid hgd
  have Hin := hid hin
  have HO := hid hO
  have HS := hid hS
  have Hlen := hid hlen
  clear hin hO hS hlen hgd
  go_enter Try.func44, Try.ntmps44
  go_wp2_with (refine wpList_make_full _ rfl _ _ 76 rfl w.heap.size 88 iU (.int .u64 0) 1 Try.underlying76 hiU zU0 zU1 .i64 .i64 _ _ 1 rfl rfl rfl rfl ?_ ?_ ?_ ?_)
  · rw [zU2]; omega
  · unfold maxLen; omega
  · simp
  intro w1 hO1 hG
  obtain ⟨g1, rfl⟩ := make_out hO1 hG (by simp)
  clear hO1 hG
  have hmade : (madeCells #[Value.int .u64 0] 1) = #[.int .u64 0] := by apply Array.toList_inj.1; rw [toList_madeCells_one]; rfl
  rw [hmade]
  clear hmade
  have hbase : Below w.heap.size w (grow (w.alloc (.cells #[.int .u64 0] 88)) g1) := by
    repeat (first | exact Below.refl _ _ | refine bG ?_ _ | refine bI ?_ _ _ | refine bA ?_ _)
  have hcon := fun W hW => Try.slices_Contains_int fb fo l.length fc l (-1) W (Nat.le_refl _) (by omega) hW
  have hcells : ∀ j, j < l.length → (grow (w.alloc (.cells #[.int .u64 0] 88)) g1).cell? ⟨fb, fo + j, none⟩ = some (.int .i64 (l.getD j 0)) := fun j hj => (hbase.cell (p := ⟨fb, fo + j, none⟩) hfb).trans (Hgd.out j hj)
  rw [List.take_length] at hcon
  have Hcon := hid (hcon _ hcells)
  clear hcon hcells
  have hg0 : (grow (w.alloc (.cells #[.int .u64 0] 88)) g1).heap[w.heap.size]? = some (.cells #[.int .u64 0] 88 (0, 0)) := by
    rw [heap_grow _ _ _ (by simp)]; exact heap_alloc_new _ _
  by_cases hm : (-1 : Int) ∈ l
  · have hct : l.contains (-1) = true := by simpa using hm
    rw [hct] at Hcon
    have Hbase := hid hbase
    have Hg0 := hid hg0
    clear hbase hg0 hct
    go_wp2_with (go_at_call 59; refine Hcon.out.mono ?_; rintro e w2 ⟨rfl, rfl⟩)
    go_ret
    refine ⟨_, rfl, Hbase.out, Nat.le_refl _, ?_⟩
    rw [Hg0.out]; unfold commonS; rw [if_pos hm]; rfl
  · have hct : l.contains (-1) = false := by simpa using hm
    rw [hct] at Hcon
    generalize grow (w.alloc (.cells #[.int .u64 0] 88)) g1 = W at *
    have Hbase := hid hbase
    have Hg0 := hid hg0
    have hcell : W.cell? ⟨w.heap.size, 0, none⟩ = some (.int .u64 0) := by simp [World.cell?, hg0]
    have hfrz : W.frozen? ⟨w.heap.size, 0, none⟩ = false := by simp [World.frozen?, hg0]
    clear hbase hg0 hct
    go_wp2_with (go_at_call 59; refine Hcon.out.mono ?_; rintro e w2 ⟨rfl, rfl⟩)
    refine wp_loop_rounds 2 ?_
    rw [rounds_succ]
    go_wp2
    rw [rounds_succ]
    go_wp2
    have Hm := hid hm
    clear hm
    go_loopw [27] (fun i wr => ∃ k : Nat, k ≤ l.length ∧ i = .int .i64 k ∧ Below w.heap.size w wr ∧ wr.heap[w.heap.size]? = some (.cells #[.int .u64 (meetS (l.take k) out onesS : Nat)] 88 (0, 0))) (fun i _ => l.length - (intOf i).toNat)
    case atStart =>
      refine ⟨0, by omega, rfl, Hbase.out.setCell (by simp) _, ?_⟩
      have := set_heap (i := 0) (v := .int .u64 18446744073709551615) (cs := [.int .u64 0]) Hg0.out
      exact this
    case round =>
      obtain ⟨k, hk, rfl, hB, hG⟩ := hrel
      by_cases hlt : k < l.length
      · have hc1 := (hB.cell (p := ⟨fb, fo + k, none⟩) hfb).trans (Hgd.out k hlt)
        have hx := Hin.out _ (List.getElem_mem hlt)
        have hx1 : l[k] ≠ -1 := fun e => Hm.out (e ▸ List.getElem_mem hlt)
        have hstep := meet_take l out onesS k hlt
        rw [show l.getD k 0 = l[k] by simp [List.getD, hlt]] at hc1
        generalize l[k] = x at hc1 hx hx1 hstep
        obtain ⟨n, rfl⟩ : ∃ n : Nat, x = n := ⟨x.toNat, by omega⟩
        rw [Int.toNat_natCast] at hstep
        have hn : n < len := by omega
        obtain ⟨u, hu, hSu⟩ := HS.out.get (i := n) (by rw [Hlen.out]; exact hn)
        have hob := (Array.getElem?_eq_some_iff.1 HO.out).1
        have hc2 : wr.cell? ⟨ob, n, none⟩ = some u := by
          simp [World.cell?, (hB.block _ hob).trans HO.out, hu]
        have hn0 : (0 : Int) ≤ (n : Int) := by omega
        have hn1 : (n : Int) < (len : Int) := by omega
        have hk1 : (k : Int) < (l.length : Int) := by omega
        have hslt := meet_lt out (l.take k) onesS (by decide)
        generalize meetS (l.take k) out onesS = s at *
        have HB := hid hB
        have HG := hid hG
        clear hx hx1 hB hG hu
        cases ho : out.getD n none with
        | none =>
          rw [ho] at hstep hSu
          cases hSu
          have Hstep := hid hstep
          clear hstep ho hslt
          go_wp2
          go_roundw
          case rel => exact ⟨k + 1, by omega, by go_num, HB.out, by rw [Hstep.out]; exact HG.out⟩
          case measure => simp [intOf]; omega
        | some t =>
          rw [ho] at hstep hSu
          obtain ⟨g, rfl, _, hg, htlt⟩ := hSu
          have hgl := (Array.getElem?_eq_some_iff.1 hg).1
          have hct : wr.cell? ⟨g, 0, none⟩ = some (.int .u64 t) := by simp [World.cell?, (HB.out.block _ hgl).trans hg]
          have hcs : wr.cell? ⟨w.heap.size, 0, none⟩ = some (.int .u64 s) := by simp [World.cell?, HG.out]
          have hfs : wr.frozen? ⟨w.heap.size, 0, none⟩ = false := by simp [World.frozen?, HG.out]
          have Hstep := hid hstep
          have Hcut := hid (setcut_any w.heap.size 0 1 s g 0 1 t hslt htlt wr hcs hfs hct)
          clear hstep ho hslt hg hct hcs hfs
          go_wp2_with (go_at_call 60; refine Hcut.out.mono ?_; rintro e w2 ⟨rfl, rfl⟩)
          go_roundw
          case rel =>
            refine ⟨k + 1, by omega, by go_num, (HB.out.setCell (by simp) _).drew, ?_⟩
            rw [Hstep.out]
            exact set_heap (i := 0) (cs := [.int .u64 s]) HG.out
          case measure => simp [intOf]; omega
      · go_wp2
        go_ret
        obtain rfl : k = l.length := by omega
        rw [List.take_length] at hG
        refine ⟨_, rfl, hB, Nat.le_refl _, ?_⟩
        unfold commonS; rw [if_neg Hm.out]; exact hG
end Go.Proofs.Ytjocifamacpamaa

/- append onto a row of one's own: where the row lies afterwards. Conditions: none. -/
namespace Go.Proofs.Ytjocifamacpamaa
open Go.RowKit
set_option linter.unusedVariables false
/-- The row lies where it lay, or in a new block. -/
theorem run_append_where {P : Program} (w : World) (base : Nat) (t ty e : TypeId) (i : TypeInfo) (z : Value) (size bytes : Nat) (ht : P.underlying t = some (.slice e)) (hi : P.info? e = some i) (hz : i.zero = some z)
    (hsize : i.size = size) (hby : i.bytes = bytes) (hzs : z.cells.size = size) (hsz : 0 < size) (v : Value) (n : Nat) (xs : List Value) (hown : w.ownsRow base e size v n xs)
    (a : Addr) (m c : Nat) (hm : 0 < m) (news : List Value) (hl : news.length = m * size) (hnews : ∀ j u, news[j]? = some u → w.cell? (a.add j) = some u) (h1 : ∀ u ∈ news, u.oneCell' = true)
    (h63 : n + m ≤ maxLen) (hbytes : (n + m) * bytes ≤ 140737488355328) (hbase : base ≤ w.heap.size) :
    ∃ v' w', (Builtin.append_ #[t, t] ty #[v, .slice (some a) m c]).run P w = .ok v' w' ∧ w'.ownsRow base e size v' (n + m) (xs ++ news) ∧ w.grownBy w' v.ownBlock ∧ (v'.ownBlock = v.ownBlock ∨ v'.ownBlock = some w.heap.size) := by
  obtain ⟨v', w', hr, h2, h3, h4⟩ := run_append_own (P := P) w base t ty e i z size bytes ht hi hz hsize hby hzs hsz v n xs hown a m c news hl hnews h1 h63 hbytes hbase
  refine ⟨v', w', hr, h2, h3, ?_⟩
  subst hsize
  subst hby
  rcases hown.2 with ⟨rfl, rfl⟩ | ⟨g, cap, cur, rfl, hbg, hg, hnc, hcm, hcs, htake⟩
  · have hr2 := run_append_nil (P := P) w t ty e i z ht hi hz a m c news hl hnews (by omega) (by unfold maxLen at h63; omega) (by have hb := hbytes; simp only [Nat.zero_add] at hb; omega)
    rw [hr] at hr2
    cases hr2
    exact .inr rfl
  · by_cases hroom : n + m ≤ cap
    · have hfit : n * i.size + news.length ≤ cur.size := by rw [hl, hcs, ← Nat.add_mul]; exact Nat.mul_le_mul_right _ hroom
      have hr2 := run_append_room (P := P) w t ty e i ht hi g n cap cur hg a m c news hl hnews h1 hroom hfit
      rw [hr] at hr2
      cases hr2
      exact .inl rfl
    · have holds : ∀ j u, xs[j]? = some u → w.cell? ((⟨g, 0, none⟩ : Addr).add j) = some u := hown.cells (g := g) rfl
      have hr2 := run_append_grow (P := P) w t ty e i z ht hi hz ⟨g, 0, none⟩ n cap xs hown.1 holds a m c news hl hnews (by omega) (by unfold maxLen at h63; omega) (growslice_fits (by omega) hbytes)
      rw [hr] at hr2
      cases hr2
      exact .inr rfl
theorem wpList_append_where {P : Program} (w : World) {ops : Array Oper} {rest : List Oper} {o : Oper} {a : Act} {Q : Exit → Act → World → Prop} (hgd : o.guard = none) (s x : Operand) (t : TypeId)
    (ho : o.op = .call { callee := .builtin .append, args := #[s, x], argTypes := #[t, t] })
    (base : Nat) (e : TypeId) (i : TypeInfo) (z : Value) (size bytes : Nat) (ht : P.underlying t = some (.slice e)) (hi : P.info? e = some i) (hz : i.zero = some z)
    (hsize : i.size = size) (hby : i.bytes = bytes) (hzs : z.cells.size = size) (hsz : 0 < size) (v : Value) (n : Nat) (xs : List Value) (hs : a.eval s = v) (hown : w.ownsRow base e size v n xs)
    (ad : Addr) (m c : Nat) (hm : 0 < m) (news : List Value) (hx : a.eval x = .slice (some ad) m c) (hl : news.length = m * size) (hnews : ∀ j u, news[j]? = some u → w.cell? (ad.add j) = some u) (h1 : ∀ u ∈ news, u.oneCell' = true)
    (h63 : n + m ≤ maxLen) (hbytes : (n + m) * bytes ≤ 140737488355328) (hbase : base ≤ w.heap.size)
    (h : ∀ v' w', w'.ownsRow base e size v' (n + m) (xs ++ news) → w.grownBy w' v.ownBlock → (v'.ownBlock = v.ownBlock ∨ v'.ownBlock = some w.heap.size) → wpList P ops Q rest (a.put o.dst v') w') : wpList P ops Q (o :: rest) a w :=
  wpList_plain hgd fun _ hK => by
    obtain ⟨v', w', hr, h2, h3, h4⟩ := run_append_where (P := P) w base t o.type e i z size bytes ht hi hz hsize hby hzs hsz v n xs hown ad m c hm news hl hnews h1 h63 hbytes hbase
    unfold Oper.wp execOp
    simp only [ho, resolve, invoke, builtin, Sem.run_bind, Sem.run_pure, Result.andThen_ok, List.map_toArray, List.map_cons, List.map_nil, hs, hx, hr]
    exact hK _ _ (h v' w' h2 h3 h4)
end Go.Proofs.Ytjocifamacpamaa

/- flow.ends, walked. Conditions: none. -/
namespace Go.Proofs.Ytjocifamacpamaa
open Go.RowKit
set_option linter.unusedVariables false
set_option linter.unusedSimpArgs false
theorem Ints.cells' {B : Nat} {w : World} {v : Value} {l : List Int} (h : Ints B w v l) : (v = .slice none 0 0 ∧ l = []) ∨ ∃ g c, v = .slice (some ⟨g, 0, none⟩) l.length c ∧ B ≤ g ∧ g < w.heap.size ∧ ∀ j, j < l.length → w.cell? ⟨g, j, none⟩ = some (.int .i64 (l.getD j 0)) := by
  have h0 := h
  obtain ⟨h1, h2⟩ := h
  rcases h2 with ⟨rfl, h2⟩ | ⟨g, cap, cur, rfl, hg, hh, hc1, hc2, hc3, hc4⟩
  · exact .inl ⟨rfl, List.length_eq_zero_iff.1 h2⟩
  · refine .inr ⟨g, cap, rfl, hg, (Array.getElem?_eq_some_iff.1 hh).1, fun j hj => ?_⟩
    have := World.ownsRow.cellAt h0 j (by omega)
    rw [this]
    simp [List.getD, hj]
/-- A row behind a row of one's own. -/
theorem wpList_append_ints {w : World} {ops : Array Oper} {rest : List Oper} {o : Oper} {a : Act} {Q : Exit → Act → World → Prop} (hgd : o.guard = none) (s x : Operand)
    (ho : o.op = .call { callee := .builtin .append, args := #[s, x], argTypes := #[46, 46] }) (base B2 : Nat) (v u : Value) (xs ys : List Int) (hs : a.eval s = v) (hown : Ints base w v xs) (hx : a.eval x = u) (hu : Ints B2 w u ys)
    (hl : xs.length + ys.length ≤ 1000000) (hbase : base ≤ w.heap.size)
    (h : ∀ v' w', Ints base w' v' (xs ++ ys) → w.grownBy w' v.ownBlock → wpList Try.prog ops Q rest (a.put o.dst v') w') : wpList Try.prog ops Q (o :: rest) a w := by
  obtain ⟨iI, hiI, zI0, zI1, zI2⟩ := info_parts Try.infoI
  rcases hu.cells' with ⟨rfl, rfl⟩ | ⟨g, c, rfl, _, _, hc⟩
  · refine wpList_append_own_none hgd s x 46 ho base 3 iI 1 Try.underlying46 hiI v xs.length (xs.map (Value.int .i64)) hs hown hx (h v w (by simpa using hown) ⟨rfl, rfl, rfl, Nat.le_refl _, fun _ _ _ => rfl⟩)
  · refine wpList_append_own w hgd s x 46 ho base 3 iI (.int .i64 0) 1 8 Try.underlying46 hiI zI0 zI1 zI2 rfl (by decide) v xs.length (xs.map (Value.int .i64)) hs hown ⟨g, 0, none⟩ ys.length c (ys.map (Value.int .i64)) hx (by simp) ?_ ?_ (by unfold maxLen; omega) (by omega) hbase fun v' w' h1 h2 _ => h v' w' ?_ h2
    · intro j q hj
      rw [List.getElem?_map] at hj
      obtain ⟨z, hz, rfl⟩ := Option.map_eq_some_iff.1 hj
      obtain ⟨hjl, rfl⟩ := List.getElem?_eq_some_iff.1 hz
      have := hc j hjl
      rw [show Addr.add ⟨g, 0, none⟩ j = ⟨g, j, none⟩ by unfold Addr.add; split <;> simp_all]
      rw [this]; simp [List.getD, hjl]
    · intro q hq; simp at hq; obtain ⟨z, _, rfl⟩ := hq; rfl
    · unfold Ints; rw [List.length_append, List.map_append]; exact h1
/-- One more behind a row of one's own; where the row lies then. -/
theorem wpList_append_int {w : World} {ops : Array Oper} {rest : List Oper} {o : Oper} {a : Act} {Q : Exit → Act → World → Prop} (hgd : o.guard = none) (s x : Operand)
    (ho : o.op = .call { callee := .builtin .append, args := #[s, x], argTypes := #[46, 46] }) (base : Nat) (v : Value) (xs : List Int) (y : Int) (g c : Nat) (hs : a.eval s = v) (hown : Ints base w v xs) (hx : a.eval x = .slice (some ⟨g, 0, none⟩) 1 c) (hc : w.cell? ⟨g, 0, none⟩ = some (.int .i64 y))
    (hl : xs.length ≤ 1000000) (hbase : base ≤ w.heap.size)
    (h : ∀ v' w', Ints base w' v' (xs ++ [y]) → w.grownBy w' v.ownBlock → (v'.ownBlock = v.ownBlock ∨ v'.ownBlock = some w.heap.size) → wpList Try.prog ops Q rest (a.put o.dst v') w') : wpList Try.prog ops Q (o :: rest) a w := by
  obtain ⟨iI, hiI, zI0, zI1, zI2⟩ := info_parts Try.infoI
  refine wpList_append_where w hgd s x 46 ho base 3 iI (.int .i64 0) 1 8 Try.underlying46 hiI zI0 zI1 zI2 rfl (by decide) v xs.length (xs.map (Value.int .i64)) hs hown ⟨g, 0, none⟩ 1 c (by decide) [.int .i64 y] hx (by simp) ?_ ?_ (by unfold maxLen; omega) (by omega) hbase fun v' w' h1 h2 h3 => h v' w' ?_ h2 h3
  · intro j q hj
    cases j with
    | zero => simp at hj; subst hj; exact hc
    | succ j => simp at hj
  · intro q hq; simp at hq; subst hq; rfl
  · unfold Ints; rw [List.length_append, List.map_append]; exact h1
theorem clone_any (B : Nat) (v : Value) (l : List Int) (hl : l.length ≤ 1000000) (w : World) (h : Ints B w v l) :
    Calls Try.prog 77 #[v] w fun e w' => ∃ v', e = .returned v' ∧ Below w.heap.size w w' ∧ Ints w.heap.size w' v' l := by
  rcases h.cells' with ⟨rfl, rfl⟩ | ⟨g, c, rfl, _, _, hc⟩
  · exact (Try.slices_Clone_int_nil 0 0 w).mono fun e w' ⟨h1, h2⟩ => ⟨_, h1, by subst h2; exact Below.refl _ _, by unfold Ints; exact ⟨rfl, .inl ⟨rfl, rfl⟩⟩⟩
  · refine (Try.slices_Clone_int g 0 l.length c l w (Nat.le_refl _) (by omega) (fun j hj => by rw [Nat.zero_add]; exact hc j hj)).mono ?_
    rintro e w' ⟨v', h1, h2, _, h3⟩
    rw [List.take_length] at h2
    exact ⟨v', h1, h3, h2⟩
/-- Rows of ints, each in a block of its own. -/
structure Rows3 (B : Nat) (w : World) (fl : List Value) (ls : List (List Int)) : Prop where
  rows : Rows2 B w fl ls
  apart : ∀ (i j : Nat) (v u : Value), i ≠ j → fl[i]? = some v → fl[j]? = some u → ∀ g, v.ownBlock = some g → u.ownBlock ≠ some g
theorem Ints_grown {B : Nat} {w w' : World} {v : Value} {l : List Int} {row : Option Nat} (h : Ints B w v l) (hg : w.grownBy w' row) (hne : ∀ g, v.ownBlock = some g → row ≠ some g) : Ints B w' v l := by
  obtain ⟨h1, h2⟩ := h
  refine ⟨h1, ?_⟩
  rcases h2 with h2 | ⟨g, cap, cur, hv, hg', hh, hr⟩
  · exact Or.inl h2
  · exact Or.inr ⟨g, cap, cur, hv, hg', by rw [hg.block g (Array.getElem?_eq_some_iff.1 hh).1 (fun e => hne g (by rw [hv]; rfl) e.symm)]; exact hh, hr⟩
theorem Ints_lt {B : Nat} {w : World} {v : Value} {l : List Int} (h : Ints B w v l) : ∀ g, v.ownBlock = some g → g < w.heap.size := by
  intro g hg
  obtain ⟨c, fz, h2⟩ := Go.Lib.ownsRow_kind h g hg
  exact (Array.getElem?_eq_some_iff.1 h2).1
theorem Rows3.put {B FB j : Nat} {w w1 w3 : World} {fl : List Value} {ls : List (List Int)} {v v' : Value} {l' : List Int} {cs : Array Value} (h : Rows3 B w fl ls) (hb : Below w.heap.size w w1) (hj : fl[j]? = some v) (hg : w1.grownBy w3 v.ownBlock)
    (hown : Ints B w3 v' l') (hwh : v'.ownBlock = v.ownBlock ∨ v'.ownBlock = some w1.heap.size) (hF : w3.heap[FB]? = some (.cells cs 46 (0, 0))) : Rows3 B (w3.setCell ⟨FB, j, none⟩ v') (fl.set j v') (ls.set j l') := by
  have hjl : j < fl.length := (List.getElem?_eq_some_iff.1 hj).1
  refine ⟨⟨by simpa using h.rows.1, fun i u l hu hl => ?_⟩, fun i k u z hik hu hz g hgu => ?_⟩
  · rw [List.getElem?_set] at hu hl
    by_cases e : j = i
    · subst e
      rw [if_pos rfl, if_pos hjl] at hu
      rw [if_pos rfl, if_pos (by have := h.rows.1; omega)] at hl
      cases hu; cases hl
      exact Ints_set hown hF (by decide)
    · rw [if_neg e] at hu hl
      exact Ints_set (Ints_grown (Ints_below (h.rows.2 i u l hu hl) hb) hg fun g hg' => fun e2 => h.apart j i v u e hj hu g e2 hg') hF (by decide)
  · have hold : ∀ (i : Nat) (u : Value), fl[i]? = some u → ∀ g, u.ownBlock = some g → g < w1.heap.size := fun i u hu g hgu => by
      have hi : i < ls.length := by rw [← h.rows.1]; exact (List.getElem?_eq_some_iff.1 hu).1
      have h1 := Ints_lt (h.rows.2 i u _ hu (List.getElem?_eq_getElem hi)) g hgu
      have := hb.size
      omega
    rw [List.getElem?_set] at hu hz
    by_cases e : j = i
    · subst e
      rw [if_pos rfl, if_pos hjl] at hu
      rw [if_neg hik] at hz
      cases hu
      intro hzg
      rcases hwh with hw | hw
      · exact h.apart j k v z hik hj hz g (by rw [← hw]; exact hgu) hzg
      · rw [hw] at hgu; cases hgu
        exact absurd (hold k z hz _ hzg) (by omega)
    · rw [if_neg e] at hu
      by_cases e2 : j = k
      · subst e2
        rw [if_pos rfl, if_pos hjl] at hz
        cases hz
        intro hzg
        rcases hwh with hw | hw
        · exact h.apart i j u v hik hu hj g hgu (by rw [← hw]; exact hzg)
        · rw [hw] at hzg; cases hzg
          exact absurd (hold i u hu _ hgu) (by omega)
      · rw [if_neg e2] at hz
        exact h.apart i k u z hik hu hz g hgu
end Go.Proofs.Ytjocifamacpamaa

/- flow.ends, walked. Conditions: none. -/
namespace Go.Proofs.Ytjocifamacpamaa
open Go.RowKit
set_option linter.unusedVariables false
set_option linter.unusedSimpArgs false
def preP (nx : Nat → List Int) (k q j : Nat) : List Int := preL nx k j ++ (((nx k).take q).filter fun n => n + 1 == (j : Int)).map fun _ => (k : Int)
theorem preP_zero (nx : Nat → List Int) (k j : Nat) : preP nx k 0 j = preL nx k j := by simp [preP]
theorem preP_all (nx : Nat → List Int) (k j : Nat) : preP nx k (nx k).length j = preL nx (k + 1) j := by
  unfold preP preL
  rw [List.take_length, List.range_succ, List.flatMap_append]
  simp
theorem preP_succ (nx : Nat → List Int) (k q j : Nat) (hq : q < (nx k).length) : preP nx k (q + 1) j = if (nx k)[q] + 1 = (j : Int) then preP nx k q j ++ [(k : Int)] else preP nx k q j := by
  unfold preP
  rw [← List.take_append_getElem hq, List.filter_append]
  by_cases h : (nx k)[q] + 1 = (j : Int)
  · simp [h]
  · simp [h]
theorem preP_set (nx : Nat → List Int) (len k q J : Nat) (hq : q < (nx k).length) (hJ : (nx k)[q] + 1 = (J : Int)) : (List.range (len + 1)).map (preP nx k (q + 1)) = ((List.range (len + 1)).map (preP nx k q)).set J (preP nx k q J ++ [(k : Int)]) := by
  apply List.ext_getElem?
  intro i
  rw [List.getElem?_set]
  simp only [List.getElem?_map, List.length_map, List.length_range]
  by_cases hi : i < len + 1
  · rw [List.getElem?_range hi]
    simp only [Option.map_some]
    rw [preP_succ nx k q i hq]
    by_cases e : J = i
    · subst e; rw [if_pos hJ, if_pos rfl, if_pos hi]
    · rw [if_neg (by omega), if_neg e]
  · rw [List.getElem?_eq_none (by simpa using hi)]
    by_cases e : J = i
    · subst e; rw [if_pos rfl, if_neg hi]; rfl
    · rw [if_neg e]; rfl
theorem preP_len (nx : Nat → List Int) (k q j : Nat) (h : ∀ i, (nx i).length ≤ 2) : (preP nx k q j).length ≤ 2 * k + 2 := by
  unfold preP
  have h1 := preL_len k j h
  have h2 := List.length_filter_le (fun n => n + 1 == (j : Int)) ((nx k).take q)
  have h3 := h k
  simp only [List.length_append, List.length_map]
  have : ((nx k).take q).length ≤ (nx k).length := by rw [List.length_take]; exact Nat.min_le_right _ _
  omega
theorem Ints_ne {B : Nat} {w : World} {v : Value} {l : List Int} {g : Nat} {c : Array Value} {e : TypeId} (h : Ints B w v l) (hg : w.heap[g]? = some (.cells c e (0, 0))) (he : e ≠ 3) : ∀ k, v.ownBlock = some k → k ≠ g := by
  intro k hk e2
  subst e2
  rcases h.2 with ⟨h0, _⟩ | ⟨g', _, _, h0, _, h1, _⟩
  · rw [h0] at hk; cases hk
  · rw [h0] at hk
    have : g' = k := by simpa [Value.ownBlock] using hk
    rw [this, hg] at h1
    injection h1 with h1
    injection h1 with _ h1 _
    exact he h1
set_option maxRecDepth 10000 in
set_option maxHeartbeats 8000000 in
theorem ends_any (B nb len : Nat) (cs : List Value) (nx : Nat → List Int) (hnx : ∀ i, ∀ x ∈ nx i, -1 ≤ x ∧ x < len) (hn2 : ∀ i, (nx i).length ≤ 2) (hl : len ≤ 40) (w : World) (hN : w.heap[nb]? = some (.cells cs.toArray 46 (0, 0)))
    (hR2 : Rows2 B w cs ((List.range len).map nx)) (k0 : Nat) (hk0 : k0 ≤ 10000) (R : List Bool) (hR : fromF (fun i => preL nx len (i + 1)) (-1) k0 (preL nx len 0) (List.replicate len false) = some R) :
    Calls Try.prog 56 #[.slice (some ⟨nb, 0, none⟩) len len] w fun e w' => ∃ v, e = .returned v ∧ Below w.heap.size w w' ∧ w'.ownsRow w.heap.size 4 1 v len (R.map Value.bool) := by
  obtain ⟨iS, hiS, zS0, zS1, zS2⟩ := info_parts Try.infoS
  obtain ⟨iB, hiB, zB0, zB1, zB2⟩ := info_parts Try.infoB
  have Hnx := hid hnx
  have Hn2 := hid hn2
  have HN := hid hN
  have HR2 := hid hR2
  have HR := hid hR
  have hlen1' : wrap64 ((len : Int) + 1) = (len : Int) + 1 := IntWalk.wrap64_in _ (by omega)
  have Hlen := hid hlen1'
  clear hlen1' hnx hn2 hN hR2 hR
  go_enter Try.func56, Try.ntmps56
  go_wp2_with (have hq := Hlen.out; simp only [IntWalk.i64_left, hq] at *; clear hq; refine wpList_make_full _ rfl _ _ 71 rfl w.heap.size 46 iS (.slice none 0 0) 1 Try.underlying71 hiS zS0 zS1 .i64 .i64 _ _ (len + 1) rfl rfl rfl rfl ?_ ?_ ?_ ?_)
  · rw [zS2]; omega
  · unfold maxLen; omega
  · simp
  intro w1 hO hG
  obtain ⟨g1, rfl⟩ := make_out hO hG (by simp)
  clear hO hG
  obtain ⟨cs0, hcs0⟩ : ∃ cs0 : List Value, cs0 = List.replicate (len + 1) (.slice none 0 0) := ⟨_, rfl⟩
  have hmade : madeCells #[Value.slice none 0 0] (len + 1) = cs0.toArray := by
    rw [hcs0]; apply Array.toList_inj.1; rw [toList_madeCells_one]
  rw [hmade]
  clear hmade
  have hb0 : Below w.heap.size w (grow (w.alloc (.cells cs0.toArray 46)) g1) := by
    repeat (first | exact Below.refl _ _ | refine bG ?_ _ | refine bI ?_ _ _ | refine bA ?_ _)
  have hF0 : (grow (w.alloc (.cells cs0.toArray 46)) g1).heap[w.heap.size]? = some (.cells cs0.toArray 46 (0, 0)) := by
    rw [heap_grow _ _ _ (by simp)]; exact heap_alloc_new _ _
  have hr0 : Rows3 w.heap.size (grow (w.alloc (.cells cs0.toArray 46)) g1) cs0 ((List.range (len + 1)).map (preL nx 0)) := by
    have hget : ∀ (i : Nat) (v : Value), cs0[i]? = some v → v = .slice none 0 0 := fun i v h => by
      rw [hcs0, List.getElem?_replicate] at h
      split at h
      · simpa using h.symm
      · cases h
    refine ⟨⟨by simp [hcs0], fun i v l hv hl => ?_⟩, fun i j v u _ hv _ g hg => ?_⟩
    · rw [hget i v hv]
      have : l = [] := by
        rw [List.getElem?_map] at hl
        obtain ⟨a, _, rfl⟩ := Option.map_eq_some_iff.1 hl
        rfl
      subst this
      exact ⟨rfl, .inl ⟨rfl, rfl⟩⟩
    · rw [hget i v hv] at hg; cases hg
  generalize grow (w.alloc (.cells cs0.toArray 46)) g1 = W1 at *
  have Hb0 := hid hb0
  have HF0 := hid hF0
  have Hr0 := hid hr0
  clear hb0 hF0 hr0 hcs0
  go_wp2
  go_loopw [17] (fun i wr => ∃ (k : Nat) (fl : List Value), k ≤ len ∧ i = .int .i64 k ∧ Below w.heap.size w wr ∧ wr.heap[w.heap.size]? = some (.cells fl.toArray 46 (0, 0)) ∧ Rows3 w.heap.size wr fl ((List.range (len + 1)).map (preL nx k))) (fun i _ => len - (intOf i).toNat)
  case atStart => exact ⟨0, cs0, by omega, rfl, Hb0.out, HF0.out, Hr0.out⟩
  case round =>
    obtain ⟨k, fl, hk, rfl, hB, hF, hR3⟩ := hrel
    have HB := hid hB
    have HF := hid hF
    have HR3 := hid hR3
    clear hB hF hR3
    by_cases hlt : k < len
    · obtain ⟨u, hu⟩ : ∃ u, cs[k]? = some u := ⟨_, List.getElem?_eq_getElem (by rw [HR2.out.1]; simpa using hlt)⟩
      have hI := HR2.out.2 k u (nx k) hu (by simp [hlt])
      have hnb := (Array.getElem?_eq_some_iff.1 HN.out).1
      have hcu : wr.cell? ⟨nb, k, none⟩ = some u := by simp [World.cell?, (HB.out.block _ hnb).trans HN.out, hu]
      obtain ⟨p, c, rfl, hp⟩ := hI.out
      have Hp := hid hp
      have hn2k := Hn2.out k
      clear hp hI hu
      have hk1 : (k : Int) < (len : Int) := by omega
      go_wp2
      generalize hL : nx k = L at *
      have HL := hid hL
      clear hL
      go_loopw [24] (fun i wr => ∃ (q : Nat) (fl : List Value), q ≤ L.length ∧ i = .int .i64 q ∧ Below w.heap.size w wr ∧ wr.heap[w.heap.size]? = some (.cells fl.toArray 46 (0, 0)) ∧ Rows3 w.heap.size wr fl ((List.range (len + 1)).map (preP nx k q))) (fun i _ => L.length - (intOf i).toNat)
      case atStart => exact ⟨0, fl, by omega, rfl, HB.out, HF.out, by rw [show preP nx k 0 = preL nx k from funext (preP_zero nx k)]; exact HR3.out⟩
      case round =>
        clear HB HF HR3 hcu
        obtain ⟨q, fl, hq, rfl, hB, hF, hR3⟩ := hrel
        by_cases hlt2 : q < L.length
        · obtain ⟨b, o, rfl, _, hblt, hcell⟩ := Hp.out (fun e => by subst e; simp at hlt2)
          have hc1 := (hB.cell (p := ⟨b, o + q, none⟩) hblt).trans (hcell q hlt2)
          have hx := Hnx.out k (L[q]) (by rw [HL.out]; exact List.getElem_mem hlt2)
          obtain ⟨J, hJ⟩ : ∃ J : Nat, L[q] + 1 = (J : Int) := ⟨(L[q] + 1).toNat, by omega⟩
          have hLq : L[q] = (J : Int) - 1 := by omega
          rw [hLq] at hc1
          have hJl : J < len + 1 := by omega
          obtain ⟨v, hv⟩ : ∃ v, fl[J]? = some v := ⟨_, List.getElem?_eq_getElem (by rw [hR3.rows.1]; simpa using hJl)⟩
          have hIv := hR3.rows.2 J v (preP nx k q J) hv (by simp [hJl])
          have hcv : wr.cell? ⟨w.heap.size, J, none⟩ = some v := by simp [World.cell?, hF, hv]
          have hJ1 : (J : Int) < (len : Int) + 1 := by omega
          have hW := (Below.refl wr.heap.size wr).alloc (Nat.le_refl _) (.cells #[.int .i64 k] 3)
          have hnF := Ints_ne hIv hF (by decide)
          have hFs := (Array.getElem?_eq_some_iff.1 hF).1
          have hpl := preP_len nx k q J Hn2.out
          have hplen : (preP nx k q J).length ≤ 1000000 := by omega
          have hbs := hB.size
          have HB := hid hB
          have HF := hid hF
          have HR3 := hid hR3
          have HW := hid hW
          have HIv := hid hIv
          have Hv := hid hv
          have HnF := hid hnF
          have HLq := hid hLq
          have Hplen := hid hplen
          clear hB hF hR3 hW hIv hv hnF hLq hpl hplen hJ hx hcell
          go_wp2_with (at_builtin; go_loud (refine wpList_append_int rfl _ _ rfl w.heap.size v (preP nx k q J) (k : Int) wr.heap.size 1 rfl ?zown rfl ?zcell ?zlen ?zbase ?zrest))
          case zown => exact Ints_below HIv.out HW.out
          case zcell => exact cell_one_new wr (.int .i64 k) 3 0 _ rfl
          case zlen => exact Hplen.out
          case zbase => simp; omega
          case zrest =>
            intro v' w3 h1 h2 h3
            have hF3 : w3.heap[w.heap.size]? = some (.cells fl.toArray 46 (0, 0)) := by
              rw [h2.block _ (by simp; omega) (fun e => HnF.out _ e.symm rfl), HW.out.block _ hFs]; exact HF.out
            have hc3 : w3.cell? ⟨w.heap.size, J, none⟩ = some v := by simp [World.cell?, hF3, Hv.out]
            have hf3 : w3.frozen? ⟨w.heap.size, J, none⟩ = false := by simp [World.frozen?, hF3]
            have hB3 : Below w.heap.size w w3 := Below.grown (HB.out.trans (HW.out.mono hbs)) h2 (by simp; omega) fun g hg => HIv.out.2.elim (fun h => by rw [h.1] at hg; cases hg) fun ⟨g', _, _, e, hle, _⟩ => by rw [e] at hg; cases hg; exact hle
            obtain ⟨p3, c3, rfl, _⟩ := h1.out
            have H1 := hid h1
            have H2 := hid h2
            have H3 := hid h3
            have HF3 := hid hF3
            have HB3 := hid hB3
            clear h1 h2 h3 hF3 hB3
            go_wp2
            go_roundw
            case rel =>
              refine ⟨q + 1, _, by omega, by go_num, HB3.out.setCell (by simp) _, set_heap HF3.out, ?_⟩
              rw [preP_set nx len k q J (by rw [HL.out]; exact hlt2) (by simp only [HL.out]; rw [HLq.out]; omega)]
              exact HR3.out.put HW.out Hv.out H2.out (by have := H1.out; rw [List.length_append] at this; exact this) (by simpa [Value.ownBlock] using H3.out) HF3.out
            case measure => simp [intOf]; omega
        · go_wp2
          go_roundw
          case rel =>
            obtain rfl : q = L.length := by omega
            refine ⟨k + 1, fl, by omega, by go_num, hB, hF, ?_⟩
            have : preP nx k L.length = preL nx (k + 1) := funext fun j => by rw [← HL.out]; exact preP_all nx k j
            rw [← this]; exact hR3
          case measure => simp [intOf]; omega
    · obtain rfl : k = len := by omega
      rename World => wF
      have HS := HR3.out.rows
      clear HR3
      have hFs := (Array.getElem?_eq_some_iff.1 HF.out).1
      have hbs := HB.out.size
      go_wp2_with (refine wpList_make_full _ rfl _ _ 54 rfl wF.heap.size 4 iB (.bool false) 1 Try.underlying54 hiB zB0 zB1 .i64 .i64 _ _ k rfl rfl rfl rfl ?_ ?_ ?_ ?_)
      · rw [zB2]; omega
      · unfold maxLen; omega
      · exact Nat.le_refl _
      intro w2 hO hG
      obtain ⟨g2, rfl⟩ := make_out hO hG (by simp)
      clear hO hG
      obtain ⟨out0, hout0⟩ : ∃ out0 : List Bool, out0 = List.replicate k false := ⟨_, rfl⟩
      have hmade : madeCells #[Value.bool false] k = (out0.map Value.bool).toArray := by
        rw [hout0]; apply Array.toList_inj.1; rw [toList_madeCells_one]; simp
      rw [hmade]
      clear hmade
      have hb2 : Below wF.heap.size wF (grow (wF.alloc (.cells (out0.map Value.bool).toArray 4)) g2) := by
        repeat (first | exact Below.refl _ _ | refine bG ?_ _ | refine bI ?_ _ _ | refine bA ?_ _)
      have hO2 : (grow (wF.alloc (.cells (out0.map Value.bool).toArray 4)) g2).heap[wF.heap.size]? = some (.cells (out0.map Value.bool).toArray 4 (0, 0)) := by
        rw [heap_grow _ _ _ (by simp)]; exact heap_alloc_new _ _
      generalize grow (wF.alloc (.cells (out0.map Value.bool).toArray 4)) g2 = W2 at *
      obtain ⟨z0, hz0⟩ : ∃ v, fl[0]? = some v := ⟨_, List.getElem?_eq_getElem (by rw [HS.1]; simp)⟩
      have hI0 := HS.2 0 z0 (preL nx k 0) hz0 (by simp)
      have hcz : W2.cell? ⟨w.heap.size, 0, none⟩ = some z0 := by simp [World.cell?, (hb2.block _ hFs).trans HF.out, hz0]
      have hpl0 := preL_len k 0 Hn2.out
      have Hcl := hid (clone_any w.heap.size z0 (preL nx k 0) (by omega) W2 (Ints_below hI0 hb2))
      have Hb2 := hid hb2
      have HO2 := hid hO2
      have Hz0 := hid hz0
      have Hout0 := hid hout0
      have HS' := hid HS
      have hk81 : (0 : Int) < (k : Int) + 1 := by omega
      clear hb2 hO2 hz0 hout0 hI0 HS
      go_wp2_with (go_at_call 77; refine Hcl.out.mono ?_; rintro e w3 ⟨tv, rfl, hb3, hI3⟩; have Hb3 := hid hb3; have HI3 := hid hI3; clear hb3 hI3)
      go_loopg [9] k0 (fun gk tv wq => ∃ (todo : List Int) (out : List Bool), Below wF.heap.size wF wq ∧ wq.heap[wF.heap.size]? = some (.cells (out.map Value.bool).toArray 4 (0, 0)) ∧ Ints wF.heap.size wq tv todo ∧
        Hid (out.length = k ∧ (∀ x ∈ todo, 0 ≤ x ∧ x < k) ∧ todo.length + 80 * gk ≤ 80 + 80 * k0 ∧ fromF (fun i => preL nx k (i + 1)) (-1) gk todo out = some R))
      case atStart =>
        have hs2 := Hb2.out.size
        refine ⟨preL nx k 0, out0, Hb2.out.trans (Hb3.out.mono hs2), ?_, Ints_base' HI3.out hs2, by rw [Hout0.out]; simp, fun x hx => ?_, by omega, by rw [Hout0.out]; exact HR.out⟩
        · exact (Hb3.out.block _ (Array.getElem?_eq_some_iff.1 HO2.out).1).trans HO2.out
        · obtain ⟨m, hm, rfl, _⟩ := mem_pre.1 hx; omega
      case round =>
        clear Hb3 HI3 Hb2 HO2 hcz Hcl
        obtain ⟨todo, out, hB, hO, hT, hF⟩ := hrel
        have HFF := hF
        clear hF
        obtain ⟨hlen, hin, hsum, hF⟩ := HFF.out
        cases gk with
        | zero => simp [fromF] at hF
        | succ gk =>
          rcases List.eq_nil_or_concat todo with rfl | ⟨ys, a, htd⟩
          · have : out = R := by simpa [fromF] using hF
            subst this
            obtain ⟨p, c, rfl, _⟩ := hT.out
            clear hin hsum hF hT HFF
            go_wp2
            go_ret
            refine ⟨_, rfl, HB.out.trans (hB.mono hbs), ?_⟩
            refine ⟨by simpa using hlen, Or.inr ⟨wF.heap.size, k, (out.map Value.bool).toArray, rfl, by omega, hO, Nat.le_refl _, by unfold maxLen; omega, by simpa using hlen, ?_⟩⟩
            rw [Nat.mul_one, List.take_of_length_le (by simp; omega)]
          · rw [List.concat_eq_append] at htd
            subst htd
            have hT0 := hT
            unfold Ints at hT0
            simp only [List.map_append, List.map_cons, List.map_nil, List.length_append, List.length_cons, List.length_nil, Nat.zero_add] at hT0
            have hOT := Ints_ne hT hO (by decide)
            obtain ⟨htl, hrow⟩ := hT
            rcases hrow with ⟨_, h0⟩ | ⟨g, cap', cur, rfl, hbg, hg, hn, hcap, hcs, htake⟩
            · simp at h0
            have hown0 : wr.ownsRow wF.heap.size 3 1 (.slice (some ⟨g, 0, none⟩) ys.length cap') ys.length (ys.map (Value.int .i64)) :=
              ownsRow_pop (last := [.int .i64 a]) (by simp) (by rw [show (ys ++ [a]).length = ys.length + 1 by simp] at hT0; exact hT0)
            have hcell : cur[ys.length]? = some (.int .i64 a) := by
              have h1 : (cur.toList.take ((ys ++ [a]).length * 1))[ys.length]? = some (.int .i64 a) := by rw [htake]; simp
              rw [List.getElem?_take_of_lt (by simp)] at h1
              simpa using h1
            have hlast : wr.cell? ⟨g, ys.length, none⟩ = some (.int .i64 a) := by
              simp [World.cell?, hg, hcell]
            have ha := hin a (by simp)
            have hin' : ∀ x ∈ ys, 0 ≤ x ∧ x < k := fun x hx => hin x (by simp [hx])
            have hn' : ys.length + 1 ≤ cap' := by simpa using hn
            have hsum' : ys.length + 1 + 80 * (gk + 1) ≤ 80 + 80 * k0 := by simpa using hsum
            have hyl : ys.length ≤ 900000 := by omega
            have hle1 : (0 : Int) ≤ (ys.length : Int) := by omega
            have hle2 : (ys.length : Int) ≤ (cap' : Int) := by omega
            have hlt2 : (ys.length : Int) < (ys.length : Int) + 1 := by omega
            have hgt : (0 : Int) < (ys.length : Int) + 1 := by omega
            have hcast : (((ys ++ [a]).length : Nat) : Int) = (ys.length : Int) + 1 := by simp
            have hNl : (ys ++ [a]).length = ys.length + 1 := by simp
            have Hin' := hid hin'
            have HF' := hid hF
            have Hsum := hid hsum'
            have HOT := hid hOT
            clear hin hin' hF HFF hT0 hsum hsum' htl htake hn hcell hcs hg HR hOT
            rw [hNl]
            clear hNl hcast
            generalize hnn : ys.length = n at *
            have Hnn := hid hnn
            clear hnn
            obtain ⟨i, rfl⟩ : ∃ i : Nat, a = i := ⟨a.toNat, by omega⟩
            have hi : i < k := by omega
            have hi0 : (0 : Int) ≤ (i : Int) := by omega
            have hi1 : (i : Int) < (k : Int) := by omega
            have hi2 : (i : Int) + 1 < (k : Int) + 1 := by omega
            have hcO : wr.cell? ⟨wF.heap.size, i, none⟩ = some (.bool (out.getD i true)) := by
              simp [World.cell?, hO, show i < out.length by omega, List.getD]
            clear ha
            cases hv : out.getD i true with
            | true =>
              rw [hv] at hcO
              have Hv := hid hv
              clear hv
              go_wp2
              go_roundg gk
              case measure => omega
              case rel =>
                have h1 := HF'.out
                rw [fromF_at, if_neg (fun h => by have := h.2.2; rw [Int.toNat_natCast, Hv.out] at this; cases this)] at h1
                exact ⟨ys, out, hB, hO, by unfold Ints; rw [Hnn.out]; exact hown0, hlen, Hin'.out, by have := Hsum.out; have := Hnn.out; omega, h1⟩
            | false =>
              rw [hv] at hcO
              have Hv := hid hv
              clear hv
              have hgO : g ≠ wF.heap.size := HOT.out g rfl
              obtain ⟨V1, hV1⟩ : ∃ V1, V1 = wr.setCell ⟨wF.heap.size, i, none⟩ (.bool true) := ⟨_, rfl⟩
              have hB1 : Below wF.heap.size wF V1 := by rw [hV1]; exact hB.setCell (by simp) _
              have hO1 : V1.heap[wF.heap.size]? = some (.cells ((out.set i true).map Value.bool).toArray 4 (0, 0)) := by
                rw [hV1]
                simp [World.setCell, Array.getElem?_modify, hO, List.map_set]
              have hown1 : Ints wF.heap.size V1 (.slice (some ⟨g, 0, none⟩) n cap') ys := by
                unfold Ints
                rw [Hnn.out]
                obtain ⟨q1, q2⟩ := hown0
                refine ⟨q1, ?_⟩
                rcases q2 with ⟨h0, _⟩ | ⟨g', cap2, cur2, h0, k1, k2, k3⟩
                · cases h0
                · cases h0
                  exact .inr ⟨g, cap', cur2, rfl, k1, by rw [hV1, Below.heap_setCell _ _ _ _ (by simpa using hgO)]; exact k2, k3⟩
              obtain ⟨z, hz⟩ : ∃ v, fl[i + 1]? = some v := ⟨_, List.getElem?_eq_getElem (by rw [HS'.out.1]; simp; omega)⟩
              have hIz := HS'.out.2 (i + 1) z (preL nx k (i + 1)) hz (by simp [hi])
              have hcz : V1.cell? ⟨w.heap.size, i + 1, none⟩ = some z := by simp [World.cell?, (hB1.block _ hFs).trans HF.out, hz]
              have hIz1 := Ints_below hIz hB1
              have hpl := preL_len k (i + 1) Hn2.out
              have hplen : n + (preL nx k (i + 1)).length ≤ 1000000 := by omega
              have hfree : wr.frozen? ⟨wF.heap.size, i, none⟩ = false := by
                simp [World.frozen?, hO]
              have hset : wr.setCell ⟨wF.heap.size, i, none⟩ (.bool true) = V1 := hV1.symm
              have Hown1 := hid hown1
              have HB1 := hid hB1
              have HO1 := hid hO1
              have HIz1 := hid hIz1
              have Hplen := hid hplen
              have Hpl := hid hpl
              clear hown1 hB1 hO1 hIz hIz1 hz hplen hpl hV1 hB hO hown0
              go_wp2_with (at_builtin; go_loud (refine wpList_append_ints rfl _ _ rfl wF.heap.size w.heap.size (.slice (some ⟨g, 0, none⟩) n cap') z ys (preL nx k (i + 1)) rfl ?yown rfl ?yrow ?ylen ?ybase ?yrest))
              case yown => exact Hown1.out
              case yrow => exact HIz1.out
              case ylen => rw [Hnn.out]; exact Hplen.out
              case ybase => exact HB1.out.size
              case yrest =>
                intro v' w3 hown3 hgr3
                go_wp2
                go_roundg gk
                case measure => omega
                case rel =>
                  have h1 := HF'.out
                  rw [fromF_at, if_pos ⟨by omega, by omega, by rw [Int.toNat_natCast]; exact Hv.out⟩, Int.toNat_natCast] at h1
                  refine ⟨ys ++ preL nx k (i + 1), out.set i true, ?_, ?_, hown3, by simpa using hlen, ?_, ?_, h1⟩
                  · refine Below.grown HB1.out hgr3 HB1.out.size fun q hq => ?_
                    simp [Value.ownBlock] at hq
                    omega
                  · rw [hgr3.block _ (Array.getElem?_eq_some_iff.1 HO1.out).1 (by simp [Value.ownBlock]; omega)]; exact HO1.out
                  · intro x hx
                    rcases List.mem_append.1 hx with hx | hx
                    · exact Hin'.out x hx
                    · obtain ⟨m, hm, rfl, _⟩ := mem_pre.1 hx; omega
                  · have h2 := Hsum.out
                    have h3 := Hpl.out
                    have h4 := Hnn.out
                    rw [List.length_append]
                    omega
end Go.Proofs.Ytjocifamacpamaa

/- flow.behind, walked. Conditions: none. -/
namespace Go.Proofs.Ytjocifamacpamaa
open Go.RowKit
set_option linter.unusedVariables false
set_option linter.unusedSimpArgs false
set_option maxHeartbeats 2000000 in
theorem setequal_any (g1 g2 s t : Nat) (w : World) (h1 : w.cell? ⟨g1, 0, none⟩ = some (.int .u64 s)) (h2 : w.cell? ⟨g2, 0, none⟩ = some (.int .u64 t)) :
    Calls Try.prog 58 #[.slice (some ⟨g1, 0, none⟩) 1 1, .slice (some ⟨g2, 0, none⟩) 1 1] w fun e w' => e = .returned (.bool (decide (s = t))) ∧ ∃ q, w' = w.drewN q := by
  by_cases hst : s = t
  · subst hst
    rw [show decide (s = s) = true by simp]
    go_enter Try.func58, Try.ntmps58
    go_wp2
    refine wp_loop_rounds 2 ?_
    rw [rounds_succ]
    go_wp2
    go_quiet (fail)
    go_wp2
    rw [rounds_succ]
    go_wp2
    go_ret
    exact ⟨rfl, _, rfl⟩
  · have hne : ((s : Int) != (t : Int)) = true := by rw [bne_iff_ne]; omega
    rw [show decide (s = t) = false by simpa using hst]
    clear hst
    go_enter Try.func58, Try.ntmps58
    go_wp2
    refine wp_loop_rounds 2 ?_
    rw [rounds_succ]
    go_wp2
    go_quiet (fail)
    go_wp2
    go_ret
    exact ⟨rfl, _, rfl⟩
theorem SetAt_set {B : Nat} {w : World} {v u : Value} {o : Option Nat} {g i : Nat} {e : TypeId} {c : Array Value} (h : SetAt B w v o) (hg : w.heap[g]? = some (.cells c e (0, 0))) (he : e ≠ 88) : SetAt B (w.setCell ⟨g, i, none⟩ u) v o := by
  cases o with
  | none => exact h
  | some s =>
    obtain ⟨g', e', h1, h2, h3⟩ := h
    refine ⟨g', e', h1, ?_, h3⟩
    rw [Below.heap_setCell _ _ _ _ (by
      intro e2
      simp at e2
      subst e2
      rw [hg] at h2
      injection h2 with h2
      injection h2 with _ h2 _
      exact he h2)]
    exact h2
theorem Sets.put {B ob j : Nat} {w : World} {cs : List Value} {out : List (Option Nat)} {v : Value} {o : Option Nat} (h : Sets B w cs out) (hO : w.heap[ob]? = some (.cells cs.toArray 76 (0, 0))) (hv : SetAt B w v o) : Sets B (w.setCell ⟨ob, j, none⟩ v) (cs.set j v) (out.set j o) := by
  refine ⟨by simpa using h.1, fun i u q hu hq => ?_⟩
  rw [List.getElem?_set] at hu hq
  by_cases e : j = i
  · subst e
    rw [if_pos rfl] at hu hq
    split at hu
    · rename_i hj
      rw [if_pos (by rw [← h.1]; exact hj)] at hq
      cases hu; cases hq
      exact SetAt_set hv hO (by decide)
    · cases hu
  · rw [if_neg e] at hu hq
    exact SetAt_set (h.2 i u q hu hq) hO (by decide)
theorem SetAt.base {B B' : Nat} {w : World} {v : Value} {o : Option Nat} (h : SetAt B w v o) (hB : B' ≤ B) : SetAt B' w v o := by
  cases o with
  | none => exact h
  | some s => obtain ⟨g, e, h1, h2⟩ := h; exact ⟨g, e, by omega, h2⟩
theorem Sets.base {B B' : Nat} {w : World} {cs : List Value} {out : List (Option Nat)} (h : Sets B w cs out) (hB : B' ≤ B) : Sets B' w cs out := ⟨h.1, fun i v o h1 h2 => (h.2 i v o h1 h2).base hB⟩
/-- A round that settles: the sets, as they lie. -/
def Lies (base ob len : Nat) (w : World) (out : List (Option Nat)) : Prop := ∃ cs : List Value, w.heap[ob]? = some (.cells cs.toArray 76 (0, 0)) ∧ Sets base w cs out ∧ out.length = len
theorem Lies.below {base ob len : Nat} {w w' : World} {out : List (Option Nat)} (h : Lies base ob len w out) (hb : Below w.heap.size w w') : Lies base ob len w' out := by
  obtain ⟨cs, h1, h2, h3⟩ := h
  exact ⟨cs, by rw [hb.block _ (Array.getElem?_eq_some_iff.1 h1).1]; exact h1, h2.below hb, h3⟩
theorem own_slice {w : World} {B : Nat} {e : TypeId} {v : Value} {n size : Nat} {xs : List Value} (h : w.ownsRow B e size v n xs) : ∃ p c, v = .slice p n c := by
  rcases h.2 with ⟨h, h0⟩ | ⟨g, c, _, h, _⟩
  · exact ⟨none, 0, by rw [h, h0]⟩
  · exact ⟨_, c, h⟩
theorem own_set {B : Nat} {w : World} {e e' : TypeId} {size n : Nat} {v u : Value} {xs : List Value} {g i : Nat} {c : Array Value} (h : w.ownsRow B e size v n xs) (hg : w.heap[g]? = some (.cells c e' (0, 0))) (he : e' ≠ e) : (w.setCell ⟨g, i, none⟩ u).ownsRow B e size v n xs := by
  obtain ⟨h1, h2⟩ := h
  refine ⟨h1, ?_⟩
  rcases h2 with h2 | ⟨g', cap, cur, hv, hg', hh, hr⟩
  · exact Or.inl h2
  · refine Or.inr ⟨g', cap, cur, hv, hg', ?_, hr⟩
    rw [Below.heap_setCell _ _ _ _ (by
      intro e2
      simp at e2
      subst e2
      rw [hg] at hh
      injection hh with hh
      injection hh with _ hh _
      exact he hh)]
    exact hh
theorem start_false (R : List Bool) (k len : Nat) (hk : k < R.length) (hlen : R.length = len) (hb : R[k] = false) : startB (R.take k) ++ List.replicate (len - k) none = startB (R.take (k + 1)) ++ List.replicate (len - (k + 1)) none := by
  rw [← List.take_append_getElem hk, show len - k = (len - (k + 1)) + 1 by omega, List.replicate_succ]
  unfold startB
  rw [List.map_append, List.append_assoc, hb]
  rfl
theorem setCell_swap (w : World) (a b i j : Nat) (u v : Value) (h : a ≠ b) : (w.setCell ⟨a, i, none⟩ u).setCell ⟨b, j, none⟩ v = (w.setCell ⟨b, j, none⟩ v).setCell ⟨a, i, none⟩ u := by
  simp only [World.setCell]
  congr 1
  apply Array.ext_getElem?
  intro k
  simp only [Array.getElem?_modify]
  by_cases e : a = k
  · subst e
    have : b ≠ a := fun e => h e.symm
    simp [this]
  · simp [e]
theorem put_world {wr w2 w3 : World} {g : Nat} {c n : Value} (hb : Below wr.heap.size wr w2) (hge : wr.heap.size ≤ g) (hg : w2.heap[g]? = some (.cells #[c] 88 (0, 0))) (h : w3 = (w2.setCell ⟨g, 0, none⟩ n).drew) :
    Below wr.heap.size wr w3 ∧ w3.heap[g]? = some (.cells #[n] 88 (0, 0)) := by
  subst h
  exact ⟨(hb.setCell hge _).drew, set_heap (i := 0) (cs := [c]) hg⟩
theorem cell_zero {w : World} {g : Nat} {v : Value} {e : TypeId} (h : w.heap[g]? = some (.cells #[v] e (0, 0))) : w.cell? ⟨g, 0, none⟩ = some v ∧ w.frozen? ⟨g, 0, none⟩ = false := by
  constructor
  · simp [World.cell?, h]
  · simp [World.frozen?, h]
@[go_sem] theorem eql_nil_nil (w : World) : (binOp .eql 76 (.slice none 0 0) (.slice none 0 0)).run Try.prog w = .ok (.bool true) w := by
  kernel_rfl
@[go_sem] theorem eql_some_nil (a : Addr) (n c : Nat) (w : World) : (binOp .eql 76 (.slice (some a) n c) (.slice none 0 0)).run Try.prog w = .ok (.bool false) w := by
  kernel_rfl
theorem Try.infoT : (Try.prog.info? 76).map (fun i => (i.zero, i.size, i.bytes)) = some (some (.slice none 0 0), 1, 24) := by kernel_rfl
theorem start_take (R : List Bool) (k len : Nat) (hk : k < R.length) (hlen : R.length = len) (b : Bool) (hb : R[k] = b) (x : Option Nat) (hx : x = if b = true then some onesS else none) :
    (startB (R.take k) ++ List.replicate (len - k) none).set k x = startB (R.take (k + 1)) ++ List.replicate (len - (k + 1)) none := by
  have hl : (startB (R.take k)).length = k := by simp [startB]; omega
  rw [List.set_append_right _ _ (by omega), hl, Nat.sub_self, show len - k = (len - (k + 1)) + 1 by omega, List.replicate_succ, List.set_cons_zero]
  rw [← List.take_append_getElem hk]
  unfold startB
  rw [List.map_append, List.append_assoc]
  subst hb hx
  rfl
set_option maxRecDepth 10000 in
set_option maxHeartbeats 8000000 in
theorem behind_any (B nb len : Nat) (cs : List Value) (nx : Nat → List Int) (hnx : ∀ i, ∀ x ∈ nx i, -1 ≤ x ∧ x < len) (hn2 : ∀ i, (nx i).length ≤ 2) (hn0 : ∀ i, nx i ≠ []) (hl : len ≤ 40) (w : World) (hN : w.heap[nb]? = some (.cells cs.toArray 46 (0, 0)))
    (hR2 : Rows2 B w cs ((List.range len).map nx)) (k0 : Nat) (hk0 : k0 ≤ 10000) (R : List Bool) (hRl : R.length = len) (hR : fromF (fun i => preL nx len (i + 1)) (-1) k0 (preL nx len 0) (List.replicate len false) = some R) (K : Nat) (F : List (Option Nat))
    (hF : settleB nx len K (startB R) = some F) :
    Calls Try.prog 43 #[.slice (some ⟨nb, 0, none⟩) len len] w fun e w' => ∃ ob, e = .returned (.slice (some ⟨ob, 0, none⟩) len len) ∧ Below w.heap.size w w' ∧ w.heap.size ≤ ob ∧ Lies w.heap.size ob len w' F := by
  obtain ⟨iT, hiT, zT0, zT1, zT2⟩ := info_parts Try.infoT
  obtain ⟨iU, hiU, zU0, zU1, zU2⟩ := info_parts Try.infoU
  have Hnx := hid hnx
  have Hn2 := hid hn2
  have Hn0 := hid hn0
  have HN := hid hN
  have HR2 := hid hR2
  have HR := hid hR
  have HF := hid hF
  have HRl := hid hRl
  have hd : len / 64 = 0 := by omega
  have hd2 : (len : Int) / 64 = 0 := by omega
  clear hnx hn2 hn0 hN hR2 hR hF hRl
  go_enter Try.func43, Try.ntmps43
  go_wp2
  apply wp_scope_straight
  go_wp2_with (refine wpList_make_full _ rfl _ _ 73 rfl w.heap.size 76 iT (.slice none 0 0) 1 Try.underlying73 hiT zT0 zT1 .i64 .i64 _ _ len rfl rfl rfl rfl ?_ ?_ ?_ ?_)
  · rw [zT2]; omega
  · unfold maxLen; omega
  · simp
  intro w1 hO hG
  obtain ⟨g1, rfl⟩ := make_out hO hG (by simp)
  clear hO hG
  obtain ⟨cs0, hcs0⟩ : ∃ cs0 : List Value, cs0 = List.replicate len (.slice none 0 0) := ⟨_, rfl⟩
  have hmade : madeCells #[Value.slice none 0 0] len = cs0.toArray := by
    rw [hcs0]; apply Array.toList_inj.1; rw [toList_madeCells_one]
  rw [hmade]
  clear hmade
  have hb0 : Below w.heap.size w (grow (w.alloc (.cells cs0.toArray 76)) g1) := by
    repeat (first | exact Below.refl _ _ | refine bG ?_ _ | refine bI ?_ _ _ | refine bA ?_ _)
  have hL0 : Lies w.heap.size w.heap.size len (grow (w.alloc (.cells cs0.toArray 76)) g1) (startB (R.take 0) ++ List.replicate (len - 0) none) := by
    refine ⟨cs0, by rw [heap_grow _ _ _ (by simp)]; exact heap_alloc_new _ _, ⟨by simp [hcs0, startB], fun i v o hv ho => ?_⟩, by simp [startB]⟩
    have h1 : v = .slice none 0 0 := by
      rw [hcs0, List.getElem?_replicate] at hv
      split at hv
      · simpa using hv.symm
      · cases hv
    have h2 : o = none := by
      simp [startB, List.getElem?_replicate] at ho
      exact ho.2.symm
    subst h1 h2; rfl
  generalize grow (w.alloc (.cells cs0.toArray 76)) g1 = W1 at *
  have hnb := (Array.getElem?_eq_some_iff.1 HN.out).1
  have Hends := hid (ends_any B nb len cs nx Hnx.out Hn2.out hl W1 ((hb0.block _ hnb).trans HN.out) (HR2.out.below hb0) k0 hk0 R HR.out)
  have Hb0 := hid hb0
  have HL0 := hid hL0
  have Hcs0 := hid hcs0
  clear hb0 hL0 hcs0
  go_wp2_with (go_at_call 56; refine Hends.out.mono ?_; rintro e w2 ⟨bv, rfl, hb2, hbo⟩; have Hb2 := hid hb2; have Hbo := hid hbo; obtain ⟨bg, bc, rfl⟩ := own_slice hbo; clear hb2 hbo)
  go_loopw [21] (fun i wr => ∃ k : Nat, k ≤ len ∧ i = .int .i64 k ∧ Below w.heap.size w wr ∧ Lies w.heap.size w.heap.size len wr (startB (R.take k) ++ List.replicate (len - k) none) ∧ wr.ownsRow W1.heap.size 4 1 (.slice bg len bc) len (R.map Value.bool)) (fun i _ => len - (intOf i).toNat)
  case atStart => exact ⟨0, by omega, rfl, Hb0.out.trans (Hb2.out.mono Hb0.out.size), HL0.out.below Hb2.out, Hbo.out⟩
  case round =>
    have hs1 := Hb0.out.size
    clear Hb0 HL0 Hb2 Hbo Hends
    obtain ⟨k, hk, rfl, hB, hL, hO⟩ := hrel
    have hbs := hB.size
    by_cases hlt : k < len
    · have hkR : k < R.length := by rw [HRl.out]; exact hlt
      obtain ⟨g, rfl⟩ : ∃ g, bg = some ⟨g, 0, none⟩ := by
        rcases hO.2 with ⟨_, h⟩ | ⟨g, _, _, h, _⟩
        · omega
        · cases h; exact ⟨g, rfl⟩
      have hcb : wr.cell? ⟨g, k, none⟩ = some (.bool R[k]) := by
        rw [World.ownsRow.cellAt hO k (by omega)]; simp [hkR]
      have hk1 : (k : Int) < (len : Int) := by omega
      cases hbk : R[k] with
      | false =>
        rw [hbk] at hcb
        have HB := hid hB
        have HL := hid hL
        have HO := hid hO
        have Hbk := hid hbk
        clear hB hL hO hbk
        go_wp2
        go_roundw
        case rel => exact ⟨k + 1, by omega, by go_num, HB.out, by rw [← start_false R k len hkR HRl.out Hbk.out]; exact HL.out, HO.out⟩
        case measure => simp [intOf]; omega
      | true =>
        rw [hbk] at hcb
        obtain ⟨cs, hcs, hSets, hlen⟩ := hL
        have hbo := (Array.getElem?_eq_some_iff.1 hcs).1
        have HB := hid hB
        have HO := hid hO
        have Hcs := hid hcs
        have HSets := hid hSets
        have Hlen := hid hlen
        have Hbk := hid hbk
        clear hB hcs hSets hlen hO hbk
        go_wp2_with (refine wpList_make_full _ rfl _ _ 76 rfl wr.heap.size 88 iU (.int .u64 0) 1 Try.underlying76 hiU zU0 zU1 .i64 .i64 _ _ 1 rfl rfl rfl rfl ?_ ?_ ?_ ?_)
        · rw [zU2]; omega
        · unfold maxLen; omega
        · exact Nat.le_refl _
        intro w3 hO3 hG3
        obtain ⟨g3, rfl⟩ := make_out hO3 hG3 (by simp)
        clear hO3 hG3
        have hmade : (madeCells #[Value.int .u64 0] 1) = #[.int .u64 0] := by apply Array.toList_inj.1; rw [toList_madeCells_one]; rfl
        rw [hmade]
        clear hmade
        have hb3 : Below wr.heap.size wr (grow (wr.alloc (.cells #[.int .u64 0] 88)) g3) := by
          repeat (first | exact Below.refl _ _ | refine bG ?_ _ | refine bI ?_ _ _ | refine bA ?_ _)
        have hg3 : (grow (wr.alloc (.cells #[.int .u64 0] 88)) g3).heap[wr.heap.size]? = some (.cells #[.int .u64 0] 88 (0, 0)) := by
          rw [heap_grow _ _ _ (by simp)]; exact heap_alloc_new _ _
        generalize grow (wr.alloc (.cells #[.int .u64 0] 88)) g3 = W3 at *
        have ho3 := (hb3.block _ hbo).trans Hcs.out
        have hne : ¬ w.heap.size = wr.heap.size := by omega
        have hne2 : ¬ wr.heap.size = w.heap.size := by omega
        have hco : ∃ u, W3.cell? ⟨w.heap.size, k, none⟩ = some u := by
          have : k < cs.length := by rw [HSets.out.1, Hlen.out]; exact hlt
          simp [World.cell?, ho3, this]
        obtain ⟨u0, hco⟩ := hco
        have hfo : W3.frozen? ⟨w.heap.size, k, none⟩ = false := by simp [World.frozen?, ho3]
        have hcg : W3.cell? ⟨wr.heap.size, 0, none⟩ = some (.int .u64 0) := by simp [World.cell?, hg3]
        have hfg : W3.frozen? ⟨wr.heap.size, 0, none⟩ = false := by simp [World.frozen?, hg3]
        have Hb3 := hid hb3
        have Hg3 := hid hg3
        have Ho3 := hid ho3
        clear hb3 hg3 ho3
        go_wp2
        refine wp_loop_rounds 2 ?_
        rw [rounds_succ]
        go_wp2
        rw [rounds_succ]
        go_wp2
        go_roundw
        case rel =>
          rw [setCell_swap _ _ _ _ _ _ _ hne]
          have hb4 : Below wr.heap.size wr (W3.setCell ⟨wr.heap.size, 0, none⟩ (.int .u64 18446744073709551615)) := Hb3.out.setCell (Nat.le_refl _) _
          have hv : SetAt wr.heap.size (W3.setCell ⟨wr.heap.size, 0, none⟩ (.int .u64 18446744073709551615)) (.slice (some ⟨wr.heap.size, 0, none⟩) 1 1) (some onesS) :=
            ⟨_, rfl, Nat.le_refl _, set_heap (i := 0) (cs := [.int .u64 0]) Hg3.out, by decide⟩
          have ho4 : (W3.setCell ⟨wr.heap.size, 0, none⟩ (.int .u64 18446744073709551615)).heap[w.heap.size]? = some (.cells cs.toArray 76 (0, 0)) := by
            rw [Below.heap_setCell _ _ _ _ (by simpa using hne)]; exact Ho3.out
          refine ⟨k + 1, by omega, by go_num, (HB.out.trans (hb4.mono hbs)).setCell (Nat.le_refl _) _, ?_, own_set (own_below HO.out hb4) ho4 (by decide)⟩
          refine ⟨_, set_heap ho4, ?_, ?_⟩
          · rw [← start_take R k len hkR HRl.out true Hbk.out (some onesS) rfl]
            exact (HSets.out.below hb4).put ho4 (hv.base hbs)
          · simp [startB]; omega
        case measure => simp [intOf]; omega
    · obtain rfl : k = len := by omega
      have hL1 : Lies w.heap.size w.heap.size k wr (startB R) := by
        have : startB (R.take k) ++ List.replicate (k - k) none = startB R := by rw [Nat.sub_self, List.replicate_zero, List.append_nil, List.take_of_length_le (by rw [HRl.out]; exact Nat.le_refl _)]
        rw [← this]; exact hL
      have HB := hid hB
      have HL1 := hid hL1
      have HO := hid hO
      clear hB hL hL1 hO
      go_wp2
      apply wp_label
      go_wp2
      go_loopg [8] K (fun gk _ wr => ∃ out : List (Option Nat), Below w.heap.size w wr ∧ Lies w.heap.size w.heap.size k wr out ∧ Hid (settleB nx k gk out = some F))
      case atStart => exact ⟨_, HB.out, HL1.out, HF.out⟩
      case round =>
        clear HB HL1 HF HO hbs
        obtain ⟨out0, hB, hL, HS⟩ := hrel
        cases gk with
        | zero => exact absurd HS.out (by simp [settleB])
        | succ gk =>
          have hbs := hB.size
          have HB := hid hB
          have HL := hid hL
          clear hB hL
          go_wp2
          go_loopw [8, 9] (fun tv av wr => ∃ (m : Nat) (out : List (Option Nat)) (b : Bool), m ≤ k ∧ av = .int .i64 ((m : Int) - 1) ∧ tv = .bool b ∧ Below w.heap.size w wr ∧ Lies w.heap.size w.heap.size k wr out ∧ Hid (sweepB nx m out b = sweepB nx k out0 false)) (fun _ av _ => (intOf av + 1).toNat)
          case atStart => exact ⟨k, out0, false, Nat.le_refl _, rfl, rfl, HB.out, HL.out, rfl⟩
          case round =>
            clear HB HL hbs
            obtain ⟨m, out, b, hm, rfl, rfl, hB, hL, Hsw⟩ := hrel
            have hbs := hB.size
            cases m with
            | zero =>
              have HB := hid hB
              have HL := hid hL
              clear hB hL
              have hsw : sweepB nx k out0 false = (out, b) := Hsw.out.symm
              have hst := HS.out
              unfold settleB at hst
              rw [hsw] at hst
              cases b with
              | false =>
                rw [if_neg (by simp)] at hst
                have : out = F := by simpa using hst
                clear hst hsw
                subst this
                go_wp2
                rw [Exit.noGoto_ret]
                go_ret
                exact ⟨_, rfl, HB.out, Nat.le_refl _, HL.out⟩
              | true =>
                rw [if_pos rfl] at hst
                have Hst := hid hst
                clear hst hsw
                go_wp2
                go_roundg gk
                case measure => omega
                case rel => exact ⟨out, HB.out, HL.out, Hst.out⟩
            | succ i =>
              have hcast : (((i + 1 : Nat) : Int) - 1) = (i : Int) := by omega
              rw [hcast]
              clear hcast
              have hi : i < k := by omega
              have hik : (i : Int) < (k : Int) := by omega
              have hi0 : (0 : Int) ≤ (i : Int) := by omega
              obtain ⟨cs1, hO1, hS1, hlen1⟩ := hL
              obtain ⟨u, hu, hSu⟩ := hS1.get (i := i) (by omega)
              have hcu : wr.cell? ⟨w.heap.size, i, none⟩ = some u := by simp [World.cell?, hO1, hu]
              have hstep : sweepB nx (i + 1) out b = sweepB nx i (stepB nx out i).1 (b || (stepB nx out i).2) := rfl
              cases ho : out.getD i none with
              | none =>
                rw [ho] at hSu
                cases hSu
                have h1 : stepB nx out i = (out, false) := by unfold stepB; rw [ho]
                rw [h1, Bool.or_false] at hstep
                have HB := hid hB
                have HL : Hid (Lies w.heap.size w.heap.size k wr out) := hid ⟨cs1, hO1, hS1, hlen1⟩
                have Hstep := hid hstep
                clear hB hO1 hS1 hlen1 hstep h1 ho hu
                go_wp2
                go_roundw
                case rel => exact ⟨i, out, b, by omega, by go_num, rfl, HB.out, HL.out, by rw [← Hstep.out]; exact Hsw.out⟩
                case measure => simp [intOf]
              | some s =>
                rw [ho] at hSu
                obtain ⟨g, rfl, hgb, hg, hslt⟩ := hSu
                have h1 : stepB nx out i = if newS nx out i = s then (out, false) else (out.set i (some (newS nx out i)), true) := by unfold stepB; rw [ho]
                rw [h1] at hstep
                obtain ⟨un, hun⟩ : ∃ u, cs[i]? = some u := ⟨_, List.getElem?_eq_getElem (by rw [HR2.out.1]; simpa using hi)⟩
                have hIn := HR2.out.2 i un (nx i) hun (by simp [hi])
                have hcn : wr.cell? ⟨nb, i, none⟩ = some un := by simp [World.cell?, (hB.block _ hnb).trans HN.out, hun]
                have hn2i := Hn2.out i
                have Hcom := hid (common_any 0 un (nx i) (Hn0.out i) (by omega) cs1 out w.heap.size k k hlen1 (by omega) (Hnx.out i) wr (Ints_base' (Ints_below hIn hB) (Nat.zero_le _)) hO1 (hS1.base (Nat.zero_le _)))
                have hob := (Array.getElem?_eq_some_iff.1 hO1).1
                have hgl := (Array.getElem?_eq_some_iff.1 hg).1
                have hclt := common_lt (nx i) out
                have Hput := hid (fun g1 w2 h1 h2 => setput_any g1 0 1 (commonS (nx i) out) i hclt (by omega) w2 h1 h2)
                have hics : i < cs1.length := by rw [hS1.1]; omega
                have HB := hid hB
                have HO1 := hid hO1
                have HS1 := hid hS1
                have Hlen1 := hid hlen1
                have Hg := hid hg
                have Hstep := hid hstep
                have Hslt := hid hslt
                have Hgb := hid hgb
                clear hB hO1 hS1 hlen1 hstep h1 ho hu hun hIn hg hclt
                generalize hnw : newS nx out i = nw at *
                have Hnw := hid hnw
                have hnwe : commonS (nx i) out ||| 2 ^ i = nw := hnw
                rw [hnwe] at Hput
                have Hlt : Hid (nw < 18446744073709551616) := hid (by rw [← hnw]; exact newS_lt nx out i (by omega))
                clear hnw hnwe
                go_wp2_with (first
                  | (go_at_call 44; refine Hcom.out.mono ?_; rintro e w2 ⟨g1, rfl, hb2, hge, hg1⟩; obtain ⟨hc1, hf1⟩ := cell_zero hg1; have Hp := hid (Hput.out g1 w2 hc1 hf1); have Hb2 := hid hb2; have Hg1 := hid hg1; clear hb2 hg1 hc1 hf1 hcn)
                  | (go_at_call 57; refine Hp.out.mono ?_; rintro e w3 ⟨rfl, hw3⟩; obtain ⟨hb3, hg3⟩ := put_world Hb2.out hge Hg1.out hw3; have hO3 := (hb3.block _ hob).trans HO1.out; have hcu3 := (hb3.cell (p := ⟨w.heap.size, i, none⟩) hob).trans hcu; have hfo3 : w3.frozen? ⟨w.heap.size, i, none⟩ = false := (by simp [World.frozen?, hO3]); have Heq := hid (setequal_any g1 g nw s w3 (cell_zero hg3).1 (cell_zero ((hb3.block _ hgl).trans Hg.out)).1); have HO3 := hid hO3; have Hg3 := hid hg3; have Hb3 := hid hb3; clear hw3 hb3 hg3 hO3 hcu)
                  | (go_at_call 58; refine Heq.out.mono ?_; rintro e w4 ⟨rfl, q, rfl⟩))
                · rename_i hcond
                  have hne : ¬ nw = s := by simpa using hcond
                  have hst := Hstep.out
                  rw [if_neg hne, Bool.or_true] at hst
                  go_roundw
                  case rel =>
                    have hbq := bN Hb3.out q
                    have hOq : (w3.drewN q).heap[w.heap.size]? = some (.cells cs1.toArray 76 (0, 0)) := HO3.out
                    refine ⟨i, out.set i (some nw), true, by omega, by go_num, rfl, (HB.out.trans (hbq.mono hbs)).setCell (Nat.le_refl _) _, ⟨_, set_heap hOq, ?_, by simpa using Hlen1.out⟩, hid (by rw [← hst]; exact Hsw.out)⟩
                    exact (HS1.out.below hbq).put hOq ⟨g1, rfl, by omega, Hg3.out, Hlt.out⟩
                  case measure => simp [intOf]
                · rename_i hcond
                  have heq : nw = s := by simpa using hcond
                  have hst := Hstep.out
                  rw [if_pos heq, Bool.or_false] at hst
                  go_roundw
                  case rel =>
                    have hbq := bN Hb3.out q
                    have hL : Lies w.heap.size w.heap.size k wr out := ⟨cs1, HO1.out, HS1.out, Hlen1.out⟩
                    exact ⟨i, out, b, by omega, by go_num, rfl, HB.out.trans (hbq.mono hbs), hL.below hbq, hid (by rw [← hst]; exact Hsw.out)⟩
                  case measure => simp [intOf]
end Go.Proofs.Ytjocifamacpamaa

/- flow.Posts, walked. Conditions: none. -/
namespace Go.Proofs.Ytjocifamacpamaa
open Go.RowKit
set_option linter.unusedVariables false
set_option linter.unusedSimpArgs false
@[go_sem] theorem neq_nil_nil (w : World) : (binOp .neq 76 (.slice none 0 0) (.slice none 0 0)).run Try.prog w = .ok (.bool false) w := by
  kernel_rfl
@[go_sem] theorem neq_some_nil (a : Addr) (n c : Nat) (w : World) : (binOp .neq 76 (.slice (some a) n c) (.slice none 0 0)).run Try.prog w = .ok (.bool true) w := by
  kernel_rfl
theorem Wds.up {base base' : Nat} {w w' : World} {p : Option Addr} {len : Nat} {ws : Nat → Int} (h : Wds base w p len ws) (hb : Below base w w') (hbb : base ≤ base') : Wds base' w' p len ws := by
  have h' := h.below hb
  exact ⟨h'.few, h'.wf, fun h0 => by
    obtain ⟨b, o, e, h1, h2⟩ := h'.lie h0
    exact ⟨b, o, e, by omega, h2⟩⟩
/-- Where the words of a function lead. -/
def nxW (len : Nat) (ws : Nat → Int) : Nat → List Int := fun i => nextS len (ws i) i
set_option maxRecDepth 10000 in
set_option maxHeartbeats 8000000 in
theorem posts_any (v0 v1 v3 v4 v5 : Value) (p : Option Addr) (len cap : Nat) (ws : Nat → Int) (w : World) (hw : Wds w.heap.size w p len ws) :
    Calls Try.prog 26 #[.agg #[v0, v1, .slice p len cap, v3, v4, v5]] w fun e w' => ∃ v, e = .returned v ∧ Below w.heap.size w w' ∧ Ints w.heap.size w' v ((List.range len).map fun i : Nat => postS (nxW len ws) len i) := by
  have hl := hw.few
  have hnx : ∀ i, ∀ x ∈ nxW len ws i, -1 ≤ x ∧ x < len := fun i x hx => nextS_in len (ws i) i x hx
  have hn2 : ∀ i, (nxW len ws i).length ≤ 2 := fun i => nextS_len len (ws i) i
  have hn0 : ∀ i, nxW len ws i ≠ [] := fun i => nextS_ne len (ws i) i
  obtain ⟨R, K, F, hRl, hR, hF, hD⟩ := done_any (nxW len ws) (by omega) hnx hn2
  have Hnx := hid hnx
  have Hn2 := hid hn2
  have Hn0 := hid hn0
  have HD := hid hD
  have Hw := hid hw
  have HR := hid hR
  have HF := hid hF
  have HRl := hid hRl
  clear hnx hn2 hn0 hD hw hR hF hRl
  go_enter Try.func26, Try.ntmps26
  go_wp2_with (first
    | (go_at_call 42; refine (nexts_any v0 v1 v3 v4 v5 p len cap ws _ (Hw.out.up (bA (Below.refl _ _) _) (by simp))).mono ?_; rintro e w2 ⟨nb, ncs, rfl, hb2, hnb, hN, hR2⟩; have Hb2 := hid hb2; have HN := hid hN; have HR2 := hid hR2; clear hb2 hN hR2)
    | (go_at_call 43; refine (behind_any _ nb len ncs (nxW len ws) Hnx.out Hn2.out Hn0.out hl _ HN.out HR2.out 10000 (Nat.le_refl _) R HRl.out HR.out K F HF.out).mono ?_; rintro e w3 ⟨ob, rfl, hb3, hob, hL⟩; have Hb3 := hid hb3; have HL := hid hL; clear hb3 hL))
  have hs3 : w2.heap.size ≤ w3.heap.size := Hb3.out.size
  have hs2 : w.heap.size ≤ w2.heap.size := by have := Hb2.out.size; simp at this; omega
  have hnbl := (Array.getElem?_eq_some_iff.1 HN.out).1
  have hN3 := (Hb3.out.block _ hnbl).trans HN.out
  have hR3 : Rows2 0 w3 ncs ((List.range len).map (nxW len ws)) := ⟨HR2.out.1, fun i v l h1 h2 => Ints_base' (Ints_below (HR2.out.2 i v l h1 h2) Hb3.out) (Nat.zero_le _)⟩
  have hB3 : Below w.heap.size w w3 := ((bA (Below.refl _ _) _).trans (Hb2.out.mono (by simp))).trans (Hb3.out.mono hs2)
  obtain ⟨cs1, hO3, hS3, hlen3⟩ := HL.out
  have hobl := (Array.getElem?_eq_some_iff.1 hO3).1
  have HN3 := hid hN3
  have HR3 := hid hR3
  have HB3 := hid hB3
  have HO3 := hid hO3
  have HS3 := hid (hS3.base (Nat.zero_le _))
  have Hlen3 := hid hlen3
  clear hN3 hR3 hB3 hO3 hS3 hlen3 Hb2 HN HR2 Hb3 HL hnb hob hnbl
  go_loopw [5, 17] (fun ov i wr => ∃ k : Nat, k ≤ len ∧ i = .int .i64 k ∧ Below w3.heap.size w3 wr ∧ Ints w3.heap.size wr ov ((List.range k).map fun i : Nat => postS (nxW len ws) len i)) (fun _ i _ => len - (intOf i).toNat)
  case atStart => exact ⟨0, by omega, rfl, Below.refl _ _, rfl, .inl ⟨rfl, rfl⟩⟩
  case round =>
    obtain ⟨k, hk, rfl, hB, hI⟩ := hrel
    have hbs := hB.size
    have hnbl := (Array.getElem?_eq_some_iff.1 HN3.out).1
    by_cases hlt : k < len
    · have hk1 : (k : Int) < (len : Int) := by omega
      obtain ⟨u, hu, hSu⟩ := HS3.out.get (i := k) (by rw [Hlen3.out]; exact hlt)
      have hcu : wr.cell? ⟨ob, k, none⟩ = some u := by simp [World.cell?, (hB.block _ hobl).trans HO3.out, hu]
      cases hf : F.getD k none with
      | none =>
        rw [hf] at hSu
        cases hSu
        have Hpost := hid (HD.out.no hlt hf)
        have HB := hid hB
        have HI := hid hI
        clear hB hI hf hu
        go_wp2_with (at_builtin; go_loud (refine wpList_append_int rfl _ _ rfl w3.heap.size u5 ((List.range k).map fun i : Nat => postS (nxW len ws) len i) (-1) wr.heap.size 1 rfl ?aown rfl ?acell ?alen ?abase ?arest))
        case aown => exact Ints_below HI.out (bA (Below.refl _ _) _)
        case acell => exact cell_one_new wr (.int .i64 (-1)) 3 0 _ rfl
        case alen => simp; omega
        case abase => simp; omega
        case arest =>
          intro v' w4 h1 h2 h3
          go_wp2
          go_roundw
          case rel =>
            refine ⟨k + 1, by omega, by go_num, ?_, ?_⟩
            · exact Below.grown (bA HB.out _) h2 (by simp; omega) fun g hg => HI.out.2.elim (fun h => by rw [h.1] at hg; cases hg) fun ⟨g', _, _, e, hle, _⟩ => by rw [e] at hg; cases hg; exact hle
            · rw [List.range_succ, List.map_append, List.map_cons, List.map_nil, Hpost.out]; exact h1
          case measure => simp [intOf]; omega
      | some s =>
        rw [hf] at hSu
        obtain ⟨g, rfl, _, hg, hslt⟩ := hSu
        obtain ⟨un, hun⟩ : ∃ u, ncs[k]? = some u := ⟨_, List.getElem?_eq_getElem (by rw [HR3.out.1]; simpa using hlt)⟩
        have hIn := HR3.out.2 k un (nxW len ws k) hun (by simp [hlt])
        have hcn : wr.cell? ⟨nb, k, none⟩ = some un := by simp [World.cell?, (hB.block _ hnbl).trans HN3.out, hun]
        have hn2k := Hn2.out k
        have hclt := common_lt (nxW len ws k) F
        have Hcom : Hid (∀ W, Below wr.heap.size wr W → Calls Try.prog 44 #[un, .slice (some ⟨ob, 0, none⟩) len len, .int .i64 1] W fun e w' => ∃ g, e = .returned (.slice (some ⟨g, 0, none⟩) 1 1) ∧ Below W.heap.size W w' ∧ W.heap.size ≤ g ∧
            w'.heap[g]? = some (.cells #[.int .u64 (commonS (nxW len ws k) F : Nat)] 88 (0, 0))) := hid fun W hW => by
          have hBW : Below w3.heap.size w3 W := hB.trans (hW.mono hbs)
          exact common_any 0 un (nxW len ws k) (Hn0.out k) (by omega) cs1 F ob len len Hlen3.out (by omega) (Hnx.out k) W (Ints_below hIn hBW) ((hBW.block _ hobl).trans HO3.out) (HS3.out.below hBW)
        have Hf := hid hf
        have HB := hid hB
        have HI := hid hI
        have Hclt := hid hclt
        clear hB hI hf hu hun hIn hg hslt hclt
        generalize hon : commonS (nxW len ws k) F = on at *
        have Hon := hid hon
        clear hon
        have hnbw : nb < wr.heap.size := by omega
        have hobw : ob < wr.heap.size := by omega
        go_wp2
        go_region_held3 (fun w' => w'.cell? ⟨nb, k, none⟩ = some un ∧ w'.cell? ⟨ob, k, none⟩ = some (.slice (some ⟨g, 0, none⟩) 1 1)) (simp [go_sem, *])
          (first | (go_at_call 44; ((with_reducible refine (Hcom.out _ (by repeat (first | exact Below.refl _ _ | refine bG ?_ _ | refine bI ?_ _ _ | refine bA ?_ _ | refine bD ?_ | refine bN ?_ _))).mono ?_); rintro e w4 ⟨g1, rfl, hb4, hg1, hG4⟩); obtain ⟨gg, rfl⟩ := bout hb4; clear hb4))
        have hB4 : Below wr.heap.size wr (grow wr gg) := below_grow _ _
        have hG5 : (grow wr gg).heap[g1]? = some (.cells #[.int .u64 (on : Nat)] 88 (0, 0)) := hG4
        clear hG4 hcn hcu
        generalize grow wr gg = W4 at *
        have hcg1 := (cell_zero hG5).1
        have HB4 := hid hB4
        have hbs4 := hB4.size
        clear hB4 hG5
        go_wp2
        go_loop [7, 8, 38] (fun bv mv i => ∃ (n : Nat) (b m : Int), n ≤ len ∧ i = .int .i64 n ∧ bv = .int .i64 b ∧ mv = .int .i64 m ∧ Hid (BestTo (fun n => n ≠ k ∧ on.testBit n = true) (fun n => manyS ((F.getD n none).getD 0) len) n b m)) (fun _ _ i => len - (intOf i).toNat)
        case atStart => exact ⟨0, -1, -1, by omega, rfl, rfl, rfl, hid (BestTo.zero _ _)⟩
        case round =>
          obtain ⟨n, b, m, hn, rfl, rfl, rfl, Hb⟩ := hrel
          by_cases hlt2 : n < len
          · have hn1 : (n : Int) < (len : Int) := by omega
            have hnl : n < 64 := by omega
            by_cases hnk : n = k
            · subst hnk
              have hbe : ((n : Int) != (n : Int)) = false := by simp
              go_wp2
              go_round
              case rel => exact ⟨n + 1, b, m, by omega, by go_num, rfl, rfl, hid (Hb.out.keep fun h => absurd rfl h.1)⟩
              case measure => simp [intOf]; omega
            have hbe : ((n : Int) != (k : Int)) = true := by rw [bne_iff_ne]; omega
            have Hhas := hid (sethas_any g1 0 1 on n Hclt.out hnl W4 hcg1)
            cases hbit : on.testBit n with
            | false =>
              rw [hbit] at Hhas
              go_wp2_with (go_at_call 45; refine Hhas.out.mono ?_; rintro e w5 ⟨rfl, rfl⟩)
              go_round
              case rel => exact ⟨n + 1, b, m, by omega, by go_num, rfl, rfl, hid (Hb.out.keep fun h => by rw [hbit] at h; cases h.2)⟩
              case measure => simp [intOf]; omega
            | true =>
              rw [hbit] at Hhas
              have hw := (HD.out.good.has k hlt).1 ⟨s, Hf.out⟩
              have hpd := (HD.out.on hlt Hf.out n hlt2 hnk).1 (by rw [Hon.out]; exact hbit)
              obtain ⟨t, ht⟩ := HD.out.ex hlt hlt2 hw hpd
              obtain ⟨u2, hu2, hS2⟩ := HS3.out.get (i := n) (by rw [Hlen3.out]; exact hlt2)
              rw [ht] at hS2
              obtain ⟨g2, rfl, _, hg2, htlt⟩ := hS2
              have hBW : Below w3.heap.size w3 W4 := HB.out.trans (HB4.out.mono hbs)
              have hcu2 : W4.cell? ⟨ob, n, none⟩ = some (.slice (some ⟨g2, 0, none⟩) 1 1) := by simp [World.cell?, (hBW.block _ hobl).trans HO3.out, hu2]
              have hcg2 := (cell_zero ((hBW.block _ (Array.getElem?_eq_some_iff.1 hg2).1).trans hg2)).1
              have Hmany := hid (setmany_any g2 0 1 t len htlt (by omega) W4 hcg2)
              have hct : manyS ((F.getD n none).getD 0) len = manyS t len := by rw [ht]; rfl
              have Hct := hid hct
              have Hbit := hid hbit
              clear hw hpd ht hu2 hg2 htlt hBW hcg2 hct hbit
              generalize manyS t len = c at *
              by_cases hgt : m < (c : Int)
              · go_wp2_with (first
                  | (go_at_call 45; refine Hhas.out.mono ?_; rintro e w5 ⟨rfl, rfl⟩)
                  | (go_at_call 46; refine Hmany.out.mono ?_; rintro e w5 ⟨rfl, rfl⟩))
                go_round
                case rel =>
                  have h1 := Hb.out.take ⟨hnk, Hbit.out⟩ (by rw [Hct.out]; exact hgt)
                  simp only [Hct.out] at h1
                  exact ⟨n + 1, n, c, by omega, by go_num, rfl, rfl, hid h1⟩
                case measure => simp [intOf]; omega
              · have hle : (c : Int) ≤ m := by omega
                go_wp2_with (first
                  | (go_at_call 45; refine Hhas.out.mono ?_; rintro e w5 ⟨rfl, rfl⟩)
                  | (go_at_call 46; refine Hmany.out.mono ?_; rintro e w5 ⟨rfl, rfl⟩))
                go_round
                case rel => exact ⟨n + 1, b, m, by omega, by go_num, rfl, rfl, hid (Hb.out.keep fun h => by rw [Hct.out]; exact hle)⟩
                case measure => simp [intOf]; omega
          · obtain rfl : n = len := by omega
            have Hpost : Hid (postS (nxW n ws) n k = b) := hid (HD.out.best hlt Hf.out (m := m) (by rw [Hon.out]; exact Hb.out))
            go_wp2_with (at_builtin; go_loud (refine wpList_append_int rfl _ _ rfl w3.heap.size u5 ((List.range k).map fun i : Nat => postS (nxW n ws) n i) b W4.heap.size 1 rfl ?bown rfl ?bcell ?blen ?bbase ?brest))
            case bown => exact Ints_below (Ints_below HI.out HB4.out) (bA (Below.refl _ _) _)
            case blen => first | omega | (simp; omega)
            case bbase => first | omega | (simp; omega)
            case brest =>
              intro v' w5 h1 h2 h3
              go_wp2
              go_roundw
              case rel =>
                refine ⟨k + 1, by omega, by go_num, ?_, ?_⟩
                · exact Below.grown ((HB.out.trans (HB4.out.mono hbs)).alloc (by omega) _) h2 (by simp; omega) fun g hg => HI.out.2.elim (fun h => by rw [h.1] at hg; cases hg) fun ⟨g', _, _, e, hle, _⟩ => by rw [e] at hg; cases hg; exact hle
                · rw [List.range_succ, List.map_append, List.map_cons, List.map_nil, Hpost.out]; exact h1
              case measure => simp [intOf]; omega
    · obtain rfl : k = len := by omega
      go_wp2
      go_ret
      exact ⟨_, rfl, HB3.out.trans (hB.mono HB3.out.size), Ints_base' hI HB3.out.size⟩
end Go.Proofs.Ytjocifamacpamaa
