/- What a word is decoded to, whole; which instructions write; sorted rows: plain, and the reference's writes. Conditions: none. -/
import Derived.Test.YtjocifamacpamaaFlowB
import Derived.Test.YtjocifamacpamaaFlowAw
import Derived.Test.YtjocifamacpamaaFlowWb
import Derived.Test.YtjocifamacpamaaFlowWc
import Derived.Outline
import Derived.Test.YtjocifamacpamaaFlowS
import Derived.Test.YtjocifamacpamaaAmP
namespace Go.Proofs.Ytjocifamacpamaa
open Go.RowKit Go.Am
set_option linter.unusedVariables false
set_option linter.unusedSimpArgs false
def aS (x : Int) : Int := match decS x with
  | .tuple ⟨(.agg ⟨_ :: (.int _ a) :: _⟩) :: _⟩ => a
  | _ => 0
def eS (x : Int) : Int := match decS x with
  | .tuple ⟨_ :: (.int _ e) :: _⟩ => e
  | _ => 1
theorem ref_range (n a b c d x : Int) (h : refS n a b c d = some x) : 0 < n ∧ n < 63 ∧ 0 ≤ a ∧ a ≤ 255 ∧ (fmI n).toList.isEmpty = false := by
  have hc := fmI_case n
  generalize hF : fmI n = F at hc
  cases hc with
  | c0 => rw [refS_0 _ _ _ _ _ hF] at h; exact absurd h (by simp)
  | c1 =>
    have hn := fm_byte n (by rw [hF]; decide +kernel)
    have h2 := (refS_1 _ _ _ _ _ _ hF).1 h
    exact ⟨hn.1, hn.2, h2.1.1.1, h2.1.1.2, by decide +kernel⟩
  | c2 =>
    have hn := fm_byte n (by rw [hF]; decide +kernel)
    have h2 := (refS_2 _ _ _ _ _ _ hF).1 h
    exact ⟨hn.1, hn.2, h2.1.1.1, h2.1.1.2, by decide +kernel⟩
  | c3 =>
    have hn := fm_byte n (by rw [hF]; decide +kernel)
    have h2 := (refS_3 _ _ _ _ _ _ hF).1 h
    exact ⟨hn.1, hn.2, h2.1.1.1, h2.1.1.2, by decide +kernel⟩
  | c4 =>
    have hn := fm_byte n (by rw [hF]; decide +kernel)
    have h2 := (refS_4 _ _ _ _ _ _ hF).1 h
    exact ⟨hn.1, hn.2, h2.1.1.1, h2.1.1.2, by decide +kernel⟩
  | c5 =>
    have hn := fm_byte n (by rw [hF]; decide +kernel)
    have h2 := (refS_5 _ _ _ _ _ _ hF).1 h
    exact ⟨hn.1, hn.2, by omega, by omega, by decide +kernel⟩
theorem dec_full (x : Int) : ∃ b c, decS x = .tuple #[insV (opS x) (aS x) b c (fdS x), .int .i64 (eS x)] ∧ ((eS x = 0 ∧ 0 < opS x ∧ opS x < 63 ∧ 0 ≤ aS x ∧ aS x ≤ 255 ∧ (fmI (opS x)).toList.isEmpty = false) ∨ eS x = 1) := by
  rcases decS_form x with ⟨n, a, b, c, d, h, h2⟩ | h
  · have e1 : opS x = n := by unfold opS; rw [h]; rfl
    have e2 : fdS x = d := by unfold fdS; rw [h]; rfl
    have e3 : aS x = a := by unfold aS; rw [h]; rfl
    have e4 : eS x = 0 := by unfold eS; rw [h]
    refine ⟨b, c, by rw [e1, e2, e3, e4, h], .inl ?_⟩
    have := ref_range n a b c d x h2
    rw [e1, e3]
    exact ⟨e4, this.1, this.2.1, this.2.2.1, this.2.2.2.1, this.2.2.2.2⟩
  · have e1 : opS x = 0 := by unfold opS; rw [h]; rfl
    have e2 : fdS x = 0 := by unfold fdS; rw [h]; rfl
    have e3 : aS x = 0 := by unfold aS; rw [h]; rfl
    have e4 : eS x = 1 := by unfold eS; rw [h]; rfl
    exact ⟨0, 0, by rw [e1, e2, e3, e4, h, badV], .inr e4⟩
/-- Which instructions write their A. -/
def wrN (n : Nat) : Bool := [1, 2, 3, 5, 6, 8, 30, 31, 32, 40, 41, 43, 45, 46, 49, 51, 53, 54, 55, 57, 58, 59, 60, 61].contains n || (Nat.ble 11 n && Nat.ble n 19) || (Nat.ble 21 n && Nat.ble n 27)
def boolIs (b : Bool) : Value → Bool
  | .bool c => c == b
  | _ => false
theorem runs51 : ((List.range 63).all fun n => runs Try.prog hk18 300 51 #[.int .i64 n] (boolIs (wrN n))) = true := by kernel_rfl
theorem wr51_any (n : Nat) (hn : n < 63) (w : World) : Calls Try.prog 51 #[.int .i64 n] w fun e w' => e = .returned (.bool (wrN n)) ∧ Below w.heap.size w w' :=
  (runs_calls (by kernel_rfl) plain18 (List.all_eq_true.1 runs51 n (List.mem_range.2 hn)) rfl w).mono fun e w' ⟨v, v', E, h1, h2, h3, h4⟩ => by
    refine ⟨?_, h4⟩
    cases v <;> simp [boolIs] at h1
    subst h1
    cases h3
    exact h2
/-- The writers' names. -/
def wrB : List UInt8 := " const move init cell getc getu add sub mul div mod lt le eq cat addi subi muli divi modi lti lei neg not len closure call table getf gets geti read type key pcall create resume yield status cast ".toUTF8.data.toList
theorem cont_all : ((List.range 63).all fun n => (fmN n).data.toList.isEmpty || Lib.contains wrB (32 :: (nmN n).data.toList ++ [32]) == wrN n) = true := by kernel_rfl
theorem cu_spec (d : Array Int) (hs : ∀ i j, i ≤ j → j < d.size → d[i]! ≤ d[j]!) : ∀ m, m ≤ d.size → (Lib.compactUpTo d m).Pairwise (· < ·) ∧ ∀ x, x ∈ Lib.compactUpTo d m ↔ ∃ j, j < m ∧ d[j]! = x
  | 0, _ => ⟨by simp [Lib.compactUpTo], fun x => by simp [Lib.compactUpTo]⟩
  | m + 1, hm => by
    obtain ⟨h1, h2⟩ := cu_spec d hs m (by omega)
    rw [Lib.compactUpTo_succ]
    by_cases hk : Lib.keeps d m = true
    · rw [if_pos hk]
      refine ⟨List.pairwise_append.2 ⟨h1, by simp, fun x hx y hy => ?_⟩, fun x => ?_⟩
      · rw [List.mem_singleton] at hy
        subst hy
        obtain ⟨j, hj, rfl⟩ := (h2 x).1 hx
        unfold Lib.keeps at hk
        have hk' := of_decide_eq_true hk
        have hne : d[m]! ≠ d[m - 1]! := hk'.elim (fun h => by omega) id
        have a1 := hs j (m - 1) (by omega) (by omega)
        have a2 := hs (m - 1) m (by omega) (by omega)
        omega
      · rw [List.mem_append, h2, List.mem_singleton]
        constructor
        · rintro (⟨j, hj, h⟩ | h)
          · exact ⟨j, by omega, h⟩
          · exact ⟨m, by omega, h.symm⟩
        · rintro ⟨j, hj, h⟩
          by_cases e : j = m
          · subst e; exact .inr h.symm
          · exact .inl ⟨j, by omega, h⟩
    · rw [if_neg hk, List.append_nil]
      refine ⟨h1, fun x => ?_⟩
      rw [h2]
      have hk2 : ¬ (m = 0 ∨ d[m]! ≠ d[m - 1]!) := fun h => hk (decide_eq_true h)
      constructor
      · rintro ⟨j, hj, h⟩; exact ⟨j, by omega, h⟩
      · rintro ⟨j, hj, h⟩
        by_cases e : j = m
        · subst e
          refine ⟨j - 1, by omega, ?_⟩
          rw [← h]
          exact (Classical.byContradiction fun hn => hk2 (.inr fun e => hn e.symm))
        · exact ⟨j, by omega, h⟩
theorem sorted_ext : ∀ (l m : List Int), l.Pairwise (· < ·) → m.Pairwise (· < ·) → (∀ x, x ∈ l ↔ x ∈ m) → l = m
  | [], [], _, _, _ => rfl
  | [], y :: m, _, _, h => absurd ((h y).2 (by simp)) (by simp)
  | x :: l, [], _, _, h => absurd ((h x).1 (by simp)) (by simp)
  | x :: l, y :: m, hl, hm, h => by
    rw [List.pairwise_cons] at hl hm
    have hxy : x = y := by
      have h1 := (h x).1 (by simp)
      have h2 := (h y).2 (by simp)
      rcases List.mem_cons.1 h1 with e | e
      · exact e
      · rcases List.mem_cons.1 h2 with e2 | e2
        · exact e2.symm
        · have := hm.1 x e
          have := hl.1 y e2
          omega
    subst hxy
    rw [sorted_ext l m hl.2 hm.2 fun z => ?_]
    constructor
    · intro hz
      rcases List.mem_cons.1 ((h z).1 (by simp [hz])) with e | e
      · have := hl.1 z hz; omega
      · exact e
    · intro hz
      rcases List.mem_cons.1 ((h z).2 (by simp [hz])) with e | e
      · have := hm.1 z hz; omega
      · exact e
theorem compact_sorted (zs : List Int) : (Lib.compact (zs.mergeSort fun x y => decide (x ≤ y))).Pairwise (· < ·) ∧ ∀ x, x ∈ Lib.compact (zs.mergeSort fun x y => decide (x ≤ y)) ↔ x ∈ zs := by
  have hp : (zs.mergeSort fun x y => decide (x ≤ y)).Perm zs := List.mergeSort_perm zs _
  have hs : (zs.mergeSort fun x y => decide (x ≤ y)).Pairwise fun a b => decide (a ≤ b) = true := List.pairwise_mergeSort (fun a b c h1 h2 => by simp at *; omega) (fun a b => by simp; omega) zs
  generalize zs.mergeSort (fun x y => decide (x ≤ y)) = l at *
  unfold Lib.compact
  have hsz : l.toArray.size = l.length := by simp
  obtain ⟨h1, h2⟩ := cu_spec l.toArray (fun i j hij hj => by
    rw [getElem!_pos l.toArray i (by omega), getElem!_pos l.toArray j hj]
    rcases Nat.lt_or_ge i j with h | h
    · have := List.pairwise_iff_getElem.1 hs i j (by simp at hj; omega) (by simpa using hj) h
      simpa using this
    · obtain rfl : i = j := by omega
      exact Int.le_refl _) l.length (by simp)
  refine ⟨h1, fun x => ?_⟩
  rw [h2, ← hp.mem_iff, List.mem_iff_getElem]
  constructor
  · rintro ⟨j, hj, rfl⟩
    exact ⟨j, hj, by rw [getElem!_pos l.toArray j (by simpa using hj)]; simp⟩
  · rintro ⟨j, hj, rfl⟩
    exact ⟨j, hj, by rw [getElem!_pos l.toArray j (by simpa using hj)]; simp⟩
/-- The marked ones of the first k. -/
def pickS (has : List Bool) (k : Nat) : List Int := ((List.range k).filter fun i => has.getD i false).map fun i : Nat => (i : Int)
theorem pick_spec (has : List Bool) (k : Nat) : (pickS has k).Pairwise (· < ·) ∧ ∀ x : Int, x ∈ pickS has k ↔ 0 ≤ x ∧ x < k ∧ has.getD x.toNat false = true := by
  unfold pickS
  constructor
  · rw [List.pairwise_map]
    refine List.Pairwise.imp (fun {a b} h => by omega) ((List.pairwise_lt_range (n := k)).sublist List.filter_sublist)
  · intro x
    simp only [List.mem_map, List.mem_filter, List.mem_range]
    constructor
    · rintro ⟨n, ⟨h1, h2⟩, rfl⟩; exact ⟨by omega, by omega, by simpa using h2⟩
    · rintro ⟨h0, h1, h2⟩; exact ⟨x.toNat, ⟨by omega, h2⟩, by omega⟩
end Go.Proofs.Ytjocifamacpamaa

/- slices.Sort and slices.Compact at a row of one's own. Conditions: none. -/
namespace Go.Proofs.Ytjocifamacpamaa
open Go.RowKit
set_option linter.unusedVariables false
set_option linter.unusedSimpArgs false
theorem Ints_put {B g cap : Nat} {w : World} {cur : Array Value} (hB : B ≤ g) (hh : w.heap[g]? = some (.cells cur 3 (0, 0))) (hcap : cap ≤ maxLen) (hsz : cur.size = cap * 1) (d : List Int) (hd : d.length ≤ cap) (q m : Nat) (hm : m ≤ d.length) (os : Array Obj) :
    Below B w (Go.Sort.grow (Go.Sort.putRow (Value.int .i64) (Go.Sort.ahead w q) g 0 d.toArray) os) ∧ Ints B (Go.Sort.grow (Go.Sort.putRow (Value.int .i64) (Go.Sort.ahead w q) g 0 d.toArray) os) (.slice (some ⟨g, 0, none⟩) m cap) (d.take m) := by
  have hg := (Array.getElem?_eq_some_iff.1 hh).1
  have hheap : ∀ k, k < w.heap.size → (Go.Sort.grow (Go.Sort.putRow (Value.int .i64) (Go.Sort.ahead w q) g 0 d.toArray) os).heap[k]? = if g = k then some (.cells (Go.Sort.putCells (Value.int .i64) 0 d.toArray cur) 3 (0, 0)) else w.heap[k]? := fun k hk => by
    show ((w.heap.modify g (Go.Sort.onCells (Go.Sort.putCells (Value.int .i64) 0 d.toArray))) ++ os)[k]? = _
    rw [Array.getElem?_append, Array.size_modify, if_pos hk, Array.getElem?_modify]
    by_cases e : g = k
    · subst e; simp [hh, Go.Sort.onCells]
    · simp [e]
  refine ⟨⟨rfl, rfl, rfl, ?_, fun k hk => ?_⟩, ⟨by simp, .inr ⟨g, cap, Go.Sort.putCells (Value.int .i64) 0 d.toArray cur, by rw [List.length_take]; simp [hm], hB, ?_, by rw [List.length_take]; omega, hcap, ?_, ?_⟩⟩⟩
  · show w.heap.size ≤ ((w.heap.modify g _) ++ os).size
    simp
  · rw [hheap k (by omega), if_neg (by omega)]
  · rw [hheap g hg, if_pos rfl]
  · simpa [Go.Sort.putCells] using hsz
  · rw [Nat.mul_one, List.length_take, Nat.min_eq_left hm]
    apply List.ext_getElem
    · simp [Go.Sort.putCells]; omega
    · intro i h1 h2
      have hi : i < m := by simp at h1; omega
      have hid : i < d.length := by omega
      simp [Go.Sort.putCells, hid, getElem!_pos]
theorem Ints_holds {B g cap : Nat} {w : World} {cur : Array Value} {l : List Int} (hh : w.heap[g]? = some (.cells cur 3 (0, 0))) (ht : cur.toList.take (l.length * 1) = l.map (Value.int .i64)) : Go.Sort.Holds (Value.int .i64) w g 0 l.toArray := by
  intro j hj
  have hj' : j < l.length := by simpa using hj
  have h3 : (cur.toList.take (l.length * 1))[j]? = some (.int .i64 l[j]) := by rw [ht]; simp [hj']
  rw [List.getElem?_take_of_lt (by omega)] at h3
  have h4 : cur[j]? = some (.int .i64 l[j]) := by simpa using h3
  constructor
  · rw [Nat.zero_add]
    simp [World.cell?, hh, h4, getElem!_pos, hj']
  · simp [World.frozen?, hh]
theorem sort_ints (B : Nat) (v : Value) (l : List Int) (hl : l.length ≤ 100000) (w : World) (h : Ints B w v l) :
    Calls Try.prog 39 #[v] w fun e w' => e = .returned (.tuple #[]) ∧ Below B w w' ∧ Ints B w' v (l.mergeSort fun x y => decide (x ≤ y)) := by
  by_cases h0 : l = []
  · subst h0
    have hs : ([] : List Int).mergeSort (fun x y => decide (x ≤ y)) = [] := by simp [List.mergeSort]
    rw [hs]
    obtain ⟨p, c, rfl, _⟩ := h.out
    exact (Try.slices_Sort_int_none p c w).mono fun e w' ⟨h1, h2⟩ => by subst h2; exact ⟨h1, Below.refl _ _, h⟩
  · obtain ⟨h1, h2⟩ := h
    rcases h2 with ⟨_, h2⟩ | ⟨g, cap, cur, rfl, hg, hh, hc1, hc2, hc3, hc4⟩
    · exact absurd (List.length_eq_zero_iff.1 h2) h0
    · refine (Try.slices_Sort_int g 0 cap l w (Ints_holds (B := B) (cap := cap) hh hc4) (Array.getElem?_eq_some_iff.1 hh).1 (by omega)).mono ?_
      rintro e w' ⟨he, n, os, rfl⟩
      have hlen : (l.mergeSort fun x y => decide (x ≤ y)).length = l.length := by simp
      obtain ⟨k1, k2⟩ := Ints_put hg hh hc2 hc3 (l.mergeSort fun x y => decide (x ≤ y)) (by omega) n l.length (by omega) os
      rw [List.take_of_length_le (by omega)] at k2
      exact ⟨he, k1, k2⟩
theorem compact_ints (B : Nat) (v : Value) (l : List Int) (hl : l.length ≤ 100000) (w : World) (h : Ints B w v l) :
    Calls Try.prog 40 #[v] w fun e w' => ∃ v', e = .returned v' ∧ Below B w w' ∧ Ints B w' v' (Lib.compact l) := by
  by_cases h0 : l = []
  · subst h0
    have hs : Lib.compact ([] : List Int) = [] := by simp [Lib.compact, Lib.compactUpTo]
    rw [hs]
    obtain ⟨p, c, rfl, _⟩ := h.out
    exact (Try.slices_Compact_int_empty p c w).mono fun e w' ⟨h1, h2⟩ => by subst h2; exact ⟨_, h1, Below.refl _ _, h⟩
  · obtain ⟨h1, h2⟩ := h
    rcases h2 with ⟨_, h2⟩ | ⟨g, cap, cur, rfl, hg, hh, hc1, hc2, hc3, hc4⟩
    · exact absurd (List.length_eq_zero_iff.1 h2) h0
    · refine (Try.slices_Compact_int g 0 cap l w (Ints_holds (B := B) (cap := cap) hh hc4) (by omega) (by omega)).mono ?_
      rintro e w' ⟨he, q, rfl⟩
      have hle := Lib.compact_length_le l
      obtain ⟨k1, k2⟩ := Ints_put hg hh hc2 hc3 (Lib.compact l ++ List.replicate (l.length - (Lib.compact l).length) 0) (by simp; omega) q (Lib.compact l).length (by simp) #[]
      rw [List.take_left] at k2
      have he2 : Go.Sort.grow (Go.Sort.putRow (Value.int .i64) (Go.Sort.ahead w q) g 0 (Lib.compact l ++ List.replicate (l.length - (Lib.compact l).length) 0).toArray) #[] = Go.Sort.putRow (Value.int .i64) (Go.Sort.ahead w q) g 0 (Lib.compact l ++ List.replicate (l.length - (Lib.compact l).length) 0).toArray := by
        simp only [Go.Sort.grow, Array.append_empty]
      rw [he2] at k1 k2
      exact ⟨_, he, k1, k2⟩
end Go.Proofs.Ytjocifamacpamaa

/- What Writes answers: plain. Conditions: none. -/
namespace Go.Proofs.Ytjocifamacpamaa
set_option linter.unusedVariables false
/-- Step for step: one place shut. -/
theorem lock2 (nx : Nat → List Int) (len : Nat) (hnx : ∀ i, ∀ x ∈ nx i, -1 ≤ x ∧ x < len) (shut shut' : Int) (hs : ∀ a : Int, 0 ≤ a → (a = shut' ↔ a = shut)) (hs1 : shut' ≠ -1) : ∀ (k : Nat) (todo : List Int) (out R : List Bool) (b : Bool), out.length = len → (∀ x ∈ todo, -1 ≤ x ∧ x < len) → fromF nx shut k todo out = some R → ∃ b', refF nx len shut' k todo (out ++ [b]) = some (R ++ [b'])
  | 0, todo, out, R, b, hl, ht, h => by simp [fromF] at h
  | k + 1, todo, out, R, b, hl, ht, h => by
    rcases List.eq_nil_or_concat todo with rfl | ⟨ys, a, htd⟩
    · simp [fromF] at h; subst h; exact ⟨b, by simp [refF]⟩
    · rw [List.concat_eq_append] at htd
      subst htd
      have ha := ht a (by simp)
      have hys : ∀ x ∈ ys, -1 ≤ x ∧ x < len := fun x hx => ht x (by simp [hx])
      rw [fromF_at] at h
      rw [refF_at]
      by_cases h1 : a = -1
      · subst h1
        rw [if_neg (by omega)] at h
        rw [if_neg (fun e => hs1 e.symm), if_pos rfl]
        obtain ⟨b', hb⟩ := lock2 nx len hnx shut shut' hs hs1 k ys out R true hl hys h
        refine ⟨b', ?_⟩
        rw [← hb]
        congr 1
        subst hl
        simp
      · by_cases h0 : a = shut'
        · rw [if_neg (fun hc => hc.2.1 ((hs a (by omega)).1 h0))] at h
          rw [if_pos h0]
          exact lock2 nx len hnx shut shut' hs hs1 k ys out R b hl hys h
        rw [if_neg h0, if_neg h1]
        have h0' : a ≠ shut := fun e => h0 ((hs a (by omega)).2 e)
        have hlt : a.toNat < out.length := by omega
        have hgd : (out ++ [b]).getD a.toNat true = out.getD a.toNat true := by simp [List.getD, List.getElem?_append_left hlt]
        rw [hgd]
        by_cases h2 : out.getD a.toNat true = false
        · rw [if_pos ⟨by omega, h0', h2⟩] at h
          rw [if_pos h2]
          obtain ⟨b', hb⟩ := lock2 nx len hnx shut shut' hs hs1 k (ys ++ nx a.toNat) (out.set a.toNat true) R b (by simpa using hl) (fun x hx => (List.mem_append.1 hx).elim (hys x) (hnx _ x)) h
          refine ⟨b', ?_⟩
          rw [← hb, List.set_append_left _ _ hlt]
        · rw [if_neg (fun hc => h2 hc.2.2)] at h
          rw [if_neg h2]
          exact lock2 nx len hnx shut shut' hs hs1 k ys out R b hl hys h
theorem nm_all : ((List.range 63).all fun n => Nat.ble (nmN n).size 20) = true := by kernel_rfl
/-- Whether a word writes its A. -/
def wC (x : Int) : Bool := (eS x == 0) && wrN (opS x).toNat
/-- What is written by the marked ones of the first k words, in order. -/
def outW (ws : Nat → Int) (R : List Bool) (k : Nat) : List Int := ((List.range k).filter fun i => R.getD i false && wC (ws i)).map fun i => aS (ws i)
theorem outW_succ (ws : Nat → Int) (R : List Bool) (k : Nat) : outW ws R (k + 1) = if (R.getD k false && wC (ws k)) = true then outW ws R k ++ [aS (ws k)] else outW ws R k := by
  unfold outW
  rw [List.range_succ, List.filter_append, List.map_append]
  simp only [List.filter_cons, List.filter_nil]
  by_cases h : (R.getD k false && wC (ws k)) = true
  · rw [if_pos h, if_pos h]; rfl
  · rw [if_neg h, if_neg h]; simp
theorem outW_len (ws : Nat → Int) (R : List Bool) (k : Nat) : (outW ws R k).length ≤ k := by
  unfold outW
  rw [List.length_map]
  exact Nat.le_trans (List.length_filter_le _ _) (by simp)
/-- The registers marked by the first k words. -/
def hasW (ws : Nat → Int) (R : List Bool) : Nat → List Bool
  | 0 => List.replicate 256 false
  | k + 1 => if (R.getD k false && wC (ws k)) = true then (hasW ws R k).set (aS (ws k)).toNat true else hasW ws R k
theorem hasW_len (ws : Nat → Int) (R : List Bool) (k : Nat) : (hasW ws R k).length = 256 := by
  induction k with
  | zero => unfold hasW; exact List.length_replicate
  | succ k ih => unfold hasW; split <;> simp only [List.length_set, ih]
theorem wC_range {x : Int} (h : wC x = true) : 0 ≤ aS x ∧ aS x ≤ 255 := by
  obtain ⟨b, c, _, h2 | h2⟩ := dec_full x
  · exact ⟨h2.2.2.2.1, h2.2.2.2.2.1⟩
  · unfold wC at h; rw [h2] at h; simp at h
theorem hasW_iff (ws : Nat → Int) (R : List Bool) (k : Nat) (x : Int) (h0 : 0 ≤ x) (h1 : x < 256) : (hasW ws R k).getD x.toNat false = true ↔ x ∈ outW ws R k := by
  induction k with
  | zero =>
    have : (hasW ws R 0).getD x.toNat false = false := by
      unfold hasW
      simp only [List.getD, List.getElem?_replicate]
      split <;> rfl
    rw [this]
    simp [outW]
  | succ k ih =>
    rw [outW_succ]
    unfold hasW
    split
    · rename_i h
      have hw := wC_range (Bool.and_eq_true_iff.1 h).2
      have hl := hasW_len ws R k
      rw [List.mem_append, ← ih, List.mem_singleton]
      by_cases e : x = aS (ws k)
      · have : x.toNat < (hasW ws R k).length := by omega
        rw [← e]
        simp [List.getD, this]
      · have hne : (aS (ws k)).toNat ≠ x.toNat := by omega
        simp only [List.getD, List.getElem?_set_ne hne]
        constructor
        · intro h; exact .inl h
        · rintro (h | h)
          · exact h
          · exact absurd h e
    · exact ih
/-- Both answers are one. -/
theorem writes_same (ws : Nat → Int) (R : List Bool) (k : Nat) : Lib.compact ((outW ws R k).mergeSort fun x y => decide (x ≤ y)) = pickS (hasW ws R k) 256 := by
  obtain ⟨h1, h2⟩ := compact_sorted (outW ws R k)
  obtain ⟨h3, h4⟩ := pick_spec (hasW ws R k) 256
  refine sorted_ext _ _ h1 h3 fun x => ?_
  rw [h2, h4]
  constructor
  · intro h
    have h5 : 0 ≤ x ∧ x < 256 := by
      unfold outW at h
      simp only [List.mem_map, List.mem_filter, Bool.and_eq_true] at h
      obtain ⟨i, ⟨_, _, hw⟩, rfl⟩ := h
      have := wC_range hw
      omega
    exact ⟨h5.1, h5.2, (hasW_iff ws R k x h5.1 h5.2).2 h⟩
  · rintro ⟨h5, h6, h7⟩
    exact (hasW_iff ws R k x h5 h6).1 h7
end Go.Proofs.Ytjocifamacpamaa

/- FlowWrites: which registers may be written between a branch and the place where its ways meet: the law's own walk, and where Writes answers nothing. Conditions: none. -/
namespace Go.Proofs.Ytjocifamacpamaa
open Go.RowKit
set_option linter.unusedVariables false
set_option linter.unusedSimpArgs false
def phiF (A : Value) (i : Int) (fb : Bool) (L : List Int) : Nat → World → Value → Prop
  | 0, _, v => v = A
  | 1, _, v => v = .bool fb
  | 2, _, v => v = .bool (!fb)
  | 3, _, v => v = .bool (!fb)
  | 4, _, v => fb = true → v = A
  | 5, _, v => fb = true → v = .int .i64 i
  | 6, w, v => fb = true → Ints 0 w v L
  | 7, _, v => fb = true → v = A
  | 8, _, v => fb = true → v = .int .i64 i
  | 9, w, v => fb = true → Ints 0 w v L
  | 10, _, v => fb = true → v = .bool true
  | _, _, v => v = .bool true
theorem phiF_below {A : Value} {i : Int} {fb : Bool} {L : List Int} : ∀ (k : Nat) (w w' : World) (v : Value), Below w.heap.size w w' → phiF A i fb L k w v → phiF A i fb L k w' v := by
  intro k w w' v hb h
  unfold phiF at *
  split at h <;> first | exact h | exact fun h1 => Ints_below (h h1) hb
set_option maxHeartbeats 2000000 in
theorem fwrites_law (v0 v1 v3 v4 v5 : Value) (p : Option Addr) (len cap : Nat) (i : Int) (fb : Bool) (L : List Int) (hL : L.length ≤ 1000) (w : World)
    (hf : ∀ w1, Calls Try.prog 22 #[.agg #[v0, v1, .slice p len cap, v3, v4, v5]] w1 fun e w' => e = .returned (.bool fb) ∧ Below w1.heap.size w1 w')
    (hn : fb = true → ∀ w1, Below w.heap.size w w1 → Calls Try.prog 30 #[.agg #[v0, v1, .slice p len cap, v3, v4, v5], .int .i64 i] w1 fun e w' => ∃ v, e = .returned v ∧ Below w1.heap.size w1 w' ∧ Ints 0 w' v L)
    (hr : fb = true → ∀ w1, Below w.heap.size w w1 → Calls Try.prog 31 #[.agg #[v0, v1, .slice p len cap, v3, v4, v5], .int .i64 i] w1 fun e w' => ∃ v, e = .returned v ∧ Below w1.heap.size w1 w' ∧ Ints 0 w' v L) :
    Calls Try.prog 12 #[.agg #[v0, v1, .slice p len cap, v3, v4, v5], .int .i64 i] w fun e w' => e = .returned (.bool true) ∧ Below w.heap.size w w' := by
  have Hf := hid hf
  have Hn := hid hn
  have Hr := hid hr
  clear hf hn hr
  go_enter Try.func12, Try.ntmps12
  go_wp2_with (go_at_call 21; refine (awake18 _).mono ?_; rintro e w' ⟨rfl, hb⟩; obtain ⟨g1, rfl⟩ := bout hb; clear hb)
  refine Am.draw_phi (Φ := phiF (.agg #[v0, v1, .slice p len cap, v3, v4, v5]) i fb L) (by kernel_rfl) (by kernel_rfl) (by kernel_rfl) phiF_below ?_ ?_
  · intro k o ca w1 ho hb hlook K hK
    have hb0 : Below w.heap.size w w1 := by
      refine Below.trans ?_ (hb.mono (by simp; omega))
      repeat (first | exact Below.refl _ _ | refine bG ?_ _ | refine bI ?_ _ _ | refine bA ?_ _)
    have hfn : ∀ f, ca.eval (.func f) = .func (.func f) #[] #[] := fun _ => rfl
    have hcs : ∀ v, ca.eval (.const v) = v := fun _ => rfl
    rcases k with _ | _ | _ | _ | _ | _ | _ | _ | _ | _ | _ | _ | _ | k
    · cases ho
      have h2 := Am.eval_tmp (Am.look_old (t := 2) hlook (by kernel_rfl) (by kernel_rfl) rfl)
      obtain ⟨g, rfl⟩ := bout hb
      refine Am.wpOp_run rfl rfl (Am.wp_value (v := .agg #[v0, v1, .slice p len cap, v3, v4, v5]) ?_ (hK _ _ (Below.refl _ _) rfl))
      · generalize ca.eval = ev at *
        simp [go_sem, execOp, hfn, hcs, h2]
    · cases ho
      have h1 : ca.tmps.getD 7 undef = _ := Am.look_of (j := 0) hlook (by kernel_rfl) rfl rfl
      have h1' := Am.eval_tmp h1
      refine Am.wpOp_run rfl rfl (Am.wp_enter (w' := w1) (f := 22) (args := #[.agg #[v0, v1, .slice p len cap, v3, v4, v5]]) ?_ ((Hf.out w1).mono ?_))
      · generalize ca.eval = ev at *
        simp [go_sem, execOp, hfn, hcs, h1']
      · rintro e w' ⟨rfl, hb'⟩
        exact ⟨_, rfl, hK _ _ hb' rfl⟩
    · cases ho
      have h1 : ca.tmps.getD 8 undef = _ := Am.look_of (j := 1) hlook (by kernel_rfl) rfl rfl
      have h1' := Am.eval_tmp h1
      refine Am.wpOp_run rfl rfl (Am.wp_value (v := .bool (!fb)) ?_ (hK _ _ (Below.refl _ _) rfl))
      · generalize ca.eval = ev at *
        simp [go_sem, execOp, hfn, hcs, h1']
    · cases ho
      have h1 : ca.tmps.getD 9 undef = _ := Am.look_of (j := 2) hlook (by kernel_rfl) rfl rfl
      have h1' := Am.eval_tmp h1
      refine Am.wpOp_run rfl rfl (Am.wp_value (v := .bool (!fb)) ?_ (hK _ _ (Below.refl _ _) rfl))
      · generalize ca.eval = ev at *
        simp [go_sem, execOp, hfn, hcs, h1']
    · cases ho
      have h2 := Am.eval_tmp (Am.look_old (t := 2) hlook (by kernel_rfl) (by kernel_rfl) rfl)
      have hg : ca.tmps.getD 10 undef = .bool (!fb) := Am.look_of (j := 3) hlook (by kernel_rfl) rfl rfl
      cases fb
      · exact Am.wpOp_skip_g rfl rfl rfl hg rfl (hK _ _ (Below.refl _ _) (fun h => nomatch h))
      obtain ⟨g, rfl⟩ := bout hb
      refine Am.wpOp_run_g rfl rfl rfl hg rfl (Am.wp_value (v := .agg #[v0, v1, .slice p len cap, v3, v4, v5]) ?_ (hK _ _ (Below.refl _ _) (fun _ => rfl)))
      · generalize ca.eval = ev at *
        simp [go_sem, execOp, hfn, hcs, h2]
    · cases ho
      have h1 := Am.eval_tmp (Am.look_old (t := 1) hlook (by kernel_rfl) (by kernel_rfl) rfl)
      have hg : ca.tmps.getD 10 undef = .bool (!fb) := Am.look_of (j := 3) hlook (by kernel_rfl) rfl rfl
      cases fb
      · exact Am.wpOp_skip_g rfl rfl rfl hg rfl (hK _ _ (Below.refl _ _) (fun h => nomatch h))
      refine Am.wpOp_run_g rfl rfl rfl hg rfl (Am.wp_value (v := .int .i64 i) ?_ (hK _ _ (Below.refl _ _) (fun _ => rfl)))
      · generalize ca.eval = ev at *
        simp [go_sem, execOp, hfn, hcs, h1]
    · cases ho
      have hg : ca.tmps.getD 10 undef = .bool (!fb) := Am.look_of (j := 3) hlook (by kernel_rfl) rfl rfl
      cases fb
      · exact Am.wpOp_skip_g rfl rfl rfl hg rfl (hK _ _ (Below.refl _ _) (fun h => nomatch h))
      have h1 : true = true → ca.tmps.getD 11 undef = _ := Am.look_of (j := 4) hlook (by kernel_rfl) rfl rfl
      have h1' := Am.eval_tmp (h1 rfl)
      have h3 : true = true → ca.tmps.getD 12 undef = _ := Am.look_of (j := 5) hlook (by kernel_rfl) rfl rfl
      have h3' := Am.eval_tmp (h3 rfl)
      refine Am.wpOp_run_g rfl rfl rfl hg rfl (Am.wp_enter (w' := w1) (f := 30) (args := #[.agg #[v0, v1, .slice p len cap, v3, v4, v5], .int .i64 i]) ?_ ((Hn.out rfl w1 hb0).mono ?_))
      · generalize ca.eval = ev at *
        simp [go_sem, execOp, hfn, hcs, h1', h3']
      · rintro e w' ⟨v, rfl, hb', hi⟩
        exact ⟨_, rfl, hK _ _ hb' (fun _ => hi)⟩
    · cases ho
      have h2 := Am.eval_tmp (Am.look_old (t := 2) hlook (by kernel_rfl) (by kernel_rfl) rfl)
      have hg : ca.tmps.getD 10 undef = .bool (!fb) := Am.look_of (j := 3) hlook (by kernel_rfl) rfl rfl
      cases fb
      · exact Am.wpOp_skip_g rfl rfl rfl hg rfl (hK _ _ (Below.refl _ _) (fun h => nomatch h))
      obtain ⟨g, rfl⟩ := bout hb
      refine Am.wpOp_run_g rfl rfl rfl hg rfl (Am.wp_value (v := .agg #[v0, v1, .slice p len cap, v3, v4, v5]) ?_ (hK _ _ (Below.refl _ _) (fun _ => rfl)))
      · generalize ca.eval = ev at *
        simp [go_sem, execOp, hfn, hcs, h2]
    · cases ho
      have h1 := Am.eval_tmp (Am.look_old (t := 1) hlook (by kernel_rfl) (by kernel_rfl) rfl)
      have hg : ca.tmps.getD 10 undef = .bool (!fb) := Am.look_of (j := 3) hlook (by kernel_rfl) rfl rfl
      cases fb
      · exact Am.wpOp_skip_g rfl rfl rfl hg rfl (hK _ _ (Below.refl _ _) (fun h => nomatch h))
      refine Am.wpOp_run_g rfl rfl rfl hg rfl (Am.wp_value (v := .int .i64 i) ?_ (hK _ _ (Below.refl _ _) (fun _ => rfl)))
      · generalize ca.eval = ev at *
        simp [go_sem, execOp, hfn, hcs, h1]
    · cases ho
      have hg : ca.tmps.getD 10 undef = .bool (!fb) := Am.look_of (j := 3) hlook (by kernel_rfl) rfl rfl
      cases fb
      · exact Am.wpOp_skip_g rfl rfl rfl hg rfl (hK _ _ (Below.refl _ _) (fun h => nomatch h))
      have h1 : true = true → ca.tmps.getD 14 undef = _ := Am.look_of (j := 7) hlook (by kernel_rfl) rfl rfl
      have h1' := Am.eval_tmp (h1 rfl)
      have h3 : true = true → ca.tmps.getD 15 undef = _ := Am.look_of (j := 8) hlook (by kernel_rfl) rfl rfl
      have h3' := Am.eval_tmp (h3 rfl)
      refine Am.wpOp_run_g rfl rfl rfl hg rfl (Am.wp_enter (w' := w1) (f := 31) (args := #[.agg #[v0, v1, .slice p len cap, v3, v4, v5], .int .i64 i]) ?_ ((Hr.out rfl w1 hb0).mono ?_))
      · generalize ca.eval = ev at *
        simp [go_sem, execOp, hfn, hcs, h1', h3']
      · rintro e w' ⟨v, rfl, hb', hi⟩
        exact ⟨_, rfl, hK _ _ hb' (fun _ => hi)⟩
    · cases ho
      have hg : ca.tmps.getD 10 undef = .bool (!fb) := Am.look_of (j := 3) hlook (by kernel_rfl) rfl rfl
      cases fb
      · exact Am.wpOp_skip_g rfl rfl rfl hg rfl (hK _ _ (Below.refl _ _) (fun h => nomatch h))
      have h1 : true = true → Ints 0 w1 (ca.tmps.getD 13 undef) L := Am.look_of (j := 6) hlook (by kernel_rfl) rfl rfl
      have h3 : true = true → Ints 0 w1 (ca.tmps.getD 16 undef) L := Am.look_of (j := 9) hlook (by kernel_rfl) rfl rfl
      have hc := same_any 0 0 _ _ L L (by omega) w1 (h1 rfl) (h3 rfl)
      have e1 : ca.eval (.tmp 13) = ca.tmps.getD 13 undef := rfl
      have e3 : ca.eval (.tmp 16) = ca.tmps.getD 16 undef := rfl
      generalize ca.tmps.getD 13 undef = x1 at *
      generalize ca.tmps.getD 16 undef = x3 at *
      refine Am.wpOp_run_g rfl rfl rfl hg rfl (Am.wp_enter (w' := w1) (f := 23) (args := #[x1, x3]) ?_ (hc.mono ?_))
      · generalize ca.eval = ev at *
        simp [go_sem, execOp, hfn, hcs, e1, e3]
      · rintro e w' ⟨rfl, hb'⟩
        exact ⟨_, rfl, hK _ _ hb' (fun _ => by simp)⟩
    · cases ho
      have h1 : ca.tmps.getD 10 undef = .bool (!fb) := Am.look_of (j := 3) hlook (by kernel_rfl) rfl rfl
      have h3 : fb = true → ca.tmps.getD 17 undef = .bool true := Am.look_of (j := 10) hlook (by kernel_rfl) rfl rfl
      have h1' := Am.eval_tmp h1
      have h3' := fun h => Am.eval_tmp (h3 h)
      refine Am.wpOp_run rfl rfl (Am.wp_value (v := .bool true) ?_ (hK _ _ (Below.refl _ _) rfl))
      · generalize ca.eval = ev at *
        cases fb
        · simp [go_sem, execOp, hfn, hcs, h1']
        · simp [go_sem, execOp, hfn, hcs, h1', h3' rfl]
    · cases ho
      have h1 : ca.tmps.getD 18 undef = .bool true := Am.look_of (j := 11) hlook (by kernel_rfl) rfl rfl
      have h1' := Am.eval_tmp h1
      refine Am.wpOp_run rfl rfl (Am.wp_value (v := .bool true) ?_ (hK _ _ (Below.refl _ _) rfl))
      · generalize ca.eval = ev at *
        simp [go_sem, execOp, hfn, hcs, h1']
    · simp at ho
  · intro ca w1 hb hd hs hphi hoth
    have h4 : ca.tmps.getD 4 undef = .bool true := hphi 12 _ 4 rfl rfl
    obtain ⟨tm, df⟩ := ca
    simp only at hd
    subst hd
    go_wp2
    go_ret
    refine ⟨congrArg _ h4, ?_⟩
    refine Below.trans ?_ (hb.mono (by simp; omega))
    repeat (first | exact Below.refl _ _ | refine bG ?_ _ | refine bI ?_ _ _ | refine bA ?_ _)
set_option maxHeartbeats 4000000 in
theorem fw_out (v0 v1 v3 v4 v5 : Value) (p : Option Addr) (len cap : Nat) (i : Int) (hi : i < 0 ∨ (len : Int) ≤ i) (w : World) :
    Calls Try.prog 30 #[.agg #[v0, v1, .slice p len cap, v3, v4, v5], .int .i64 i] w fun e w' => e = .returned (.slice none 0 0) ∧ Below w.heap.size w w' := by
  by_cases h0 : i < 0
  · clear hi
    go_enter Try.func30, Try.ntmps30
    go_wp2
    go_ret
    exact ⟨rfl, by repeat (first | exact Below.refl _ _ | refine bG ?_ _ | refine bI ?_ _ _ | refine bA ?_ _)⟩
  · have h1 : (len : Int) ≤ i := by omega
    clear hi
    go_enter Try.func30, Try.ntmps30
    go_wp2
    go_ret
    exact ⟨rfl, by repeat (first | exact Below.refl _ _ | refine bG ?_ _ | refine bI ?_ _ _ | refine bA ?_ _)⟩
set_option maxHeartbeats 4000000 in
theorem fw_bad (v0 v1 v3 v4 v5 : Value) (p : Option Addr) (len cap : Nat) (ws : Nat → Int) (a : Nat) (ha : a < len) (w : World) (hw : Wds w.heap.size w p len ws) (he : eS (ws a) = 1) :
    Calls Try.prog 30 #[.agg #[v0, v1, .slice p len cap, v3, v4, v5], .int .i64 a] w fun e w' => e = .returned (.slice none 0 0) ∧ Below w.heap.size w w' := by
  have hl := hw.few
  have ha1 : (a : Int) < (len : Int) := by omega
  have ha0 : (0 : Int) ≤ (a : Int) := by omega
  obtain ⟨bp, op, rfl, hbp, hcp⟩ := hw.lie (by omega)
  have hcpa := hcp a ha
  obtain ⟨b', c', hdec, _⟩ := dec_full (ws a)
  have hda := fun w => dec_any (ws a) (hw.wf a ha).1 (hw.wf a ha).2 w
  rw [hdec, he] at hda
  simp only [insV] at hda
  have Hda := hid hda
  clear hw he hdec hda hcp
  go_enter Try.func30, Try.ntmps30
  go_wp2_with (go_at_call 19; refine (Hda.out _).mono ?_; rintro e w' ⟨rfl, hb⟩; obtain ⟨g1, rfl⟩ := bout hb; clear hb)
  go_ret
  exact ⟨rfl, by repeat (first | exact Below.refl _ _ | refine bG ?_ _ | refine bI ?_ _ _ | refine bA ?_ _)⟩
set_option maxHeartbeats 4000000 in
theorem fw_other (v0 v1 v3 v4 v5 : Value) (p : Option Addr) (len cap : Nat) (ws : Nat → Int) (a : Nat) (ha : a < len) (w : World) (hw : Wds w.heap.size w p len ws) (he : eS (ws a) = 0) (h5 : opS (ws a) ≠ 35) (h6 : opS (ws a) ≠ 36) :
    Calls Try.prog 30 #[.agg #[v0, v1, .slice p len cap, v3, v4, v5], .int .i64 a] w fun e w' => e = .returned (.slice none 0 0) ∧ Below w.heap.size w w' := by
  have hl := hw.few
  have ha1 : (a : Int) < (len : Int) := by omega
  have ha0 : (0 : Int) ≤ (a : Int) := by omega
  obtain ⟨bp, op, rfl, hbp, hcp⟩ := hw.lie (by omega)
  have hcpa := hcp a ha
  obtain ⟨b', c', hdec, _⟩ := dec_full (ws a)
  have hda := fun w => dec_any (ws a) (hw.wf a ha).1 (hw.wf a ha).2 w
  rw [hdec, he] at hda
  simp only [insV] at hda
  have h5' : (opS (ws a) != 35) = true := by rw [bne_iff_ne]; exact h5
  have h6' : (opS (ws a) != 36) = true := by rw [bne_iff_ne]; exact h6
  generalize opS (ws a) = n at *
  have Hda := hid hda
  clear hw he hdec hda hcp h5 h6
  go_enter Try.func30, Try.ntmps30
  go_wp2_with (go_at_call 19; refine (Hda.out _).mono ?_; rintro e w' ⟨rfl, hb⟩; obtain ⟨g1, rfl⟩ := bout hb; clear hb)
  go_ret
  exact ⟨rfl, by repeat (first | exact Below.refl _ _ | refine bG ?_ _ | refine bI ?_ _ _ | refine bA ?_ _)⟩
set_option maxHeartbeats 4000000 in
theorem rw_out (v0 v1 v3 v4 v5 : Value) (p : Option Addr) (len cap : Nat) (i : Int) (hi : i < 0 ∨ (len : Int) ≤ i) (w : World) :
    Calls Try.prog 31 #[.agg #[v0, v1, .slice p len cap, v3, v4, v5], .int .i64 i] w fun e w' => e = .returned (.slice none 0 0) ∧ Below w.heap.size w w' := by
  by_cases h0 : i < 0
  · clear hi
    go_enter Try.func31, Try.ntmps31
    go_wp2
    go_ret
    exact ⟨rfl, by repeat (first | exact Below.refl _ _ | refine bG ?_ _ | refine bI ?_ _ _ | refine bA ?_ _)⟩
  · have h1 : (len : Int) ≤ i := by omega
    clear hi
    go_enter Try.func31, Try.ntmps31
    go_wp2
    go_ret
    exact ⟨rfl, by repeat (first | exact Below.refl _ _ | refine bG ?_ _ | refine bI ?_ _ _ | refine bA ?_ _)⟩
set_option maxHeartbeats 4000000 in
theorem rw_bad (v0 v1 v3 v4 v5 : Value) (p : Option Addr) (len cap : Nat) (ws : Nat → Int) (a : Nat) (ha : a < len) (w : World) (hw : Wds w.heap.size w p len ws) (he : eS (ws a) = 1) :
    Calls Try.prog 31 #[.agg #[v0, v1, .slice p len cap, v3, v4, v5], .int .i64 a] w fun e w' => e = .returned (.slice none 0 0) ∧ Below w.heap.size w w' := by
  have hl := hw.few
  have ha1 : (a : Int) < (len : Int) := by omega
  have ha0 : (0 : Int) ≤ (a : Int) := by omega
  obtain ⟨bp, op, rfl, hbp, hcp⟩ := hw.lie (by omega)
  have hcpa := hcp a ha
  obtain ⟨b', c', hdec, _⟩ := dec_full (ws a)
  have hda := fun w => refDec_any (ws a) (hw.wf a ha).1 (hw.wf a ha).2 w
  rw [hdec, he] at hda
  simp only [insV] at hda
  have Hda := hid hda
  clear hw he hdec hda hcp
  go_enter Try.func31, Try.ntmps31
  go_wp2_with (go_at_call 20; refine (Hda.out _).mono ?_; rintro e w' ⟨rfl, hb⟩; obtain ⟨g1, rfl⟩ := bout hb; clear hb)
  go_ret
  exact ⟨rfl, by repeat (first | exact Below.refl _ _ | refine bG ?_ _ | refine bI ?_ _ _ | refine bA ?_ _)⟩
set_option maxHeartbeats 4000000 in
theorem rw_other (v0 v1 v3 v4 v5 : Value) (p : Option Addr) (len cap : Nat) (ws : Nat → Int) (a : Nat) (ha : a < len) (w : World) (hw : Wds w.heap.size w p len ws) (he : eS (ws a) = 0) (h5 : opS (ws a) ≠ 35) (h6 : opS (ws a) ≠ 36) :
    Calls Try.prog 31 #[.agg #[v0, v1, .slice p len cap, v3, v4, v5], .int .i64 a] w fun e w' => e = .returned (.slice none 0 0) ∧ Below w.heap.size w w' := by
  have hl := hw.few
  have ha1 : (a : Int) < (len : Int) := by omega
  have ha0 : (0 : Int) ≤ (a : Int) := by omega
  obtain ⟨bp, op, rfl, hbp, hcp⟩ := hw.lie (by omega)
  have hcpa := hcp a ha
  obtain ⟨b', c', hdec, _⟩ := dec_full (ws a)
  have hda := fun w => refDec_any (ws a) (hw.wf a ha).1 (hw.wf a ha).2 w
  rw [hdec, he] at hda
  simp only [insV] at hda
  have h5' : (opS (ws a) != 35) = true := by rw [bne_iff_ne]; exact h5
  have h6' : (opS (ws a) != 36) = true := by rw [bne_iff_ne]; exact h6
  generalize opS (ws a) = n at *
  have Hda := hid hda
  clear hw he hdec hda hcp h5 h6
  go_enter Try.func31, Try.ntmps31
  go_wp2_with (go_at_call 20; refine (Hda.out _).mono ?_; rintro e w' ⟨rfl, hb⟩; obtain ⟨g1, rfl⟩ := bout hb; clear hb)
  go_ret
  exact ⟨rfl, by repeat (first | exact Below.refl _ _ | refine bG ?_ _ | refine bI ?_ _ _ | refine bA ?_ _)⟩
end Go.Proofs.Ytjocifamacpamaa
