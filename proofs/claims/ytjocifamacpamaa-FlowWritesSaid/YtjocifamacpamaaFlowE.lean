/- flow.from, walked. Conditions: none. -/
import Derived.Deep.LoopGhost
import Derived.Lib.OwnKind
import Derived.WalkSmall
import Derived.Outline
import Derived.Test.YtjocifamacpamaaFlowD
import Derived.Test.YtjocifamacpamaaMake
namespace Go.Proofs.Ytjocifamacpamaa
open Go.RowKit
set_option linter.unusedVariables false
set_option linter.unusedSimpArgs false
theorem nextS_len (n x i : Int) : (nextS n x i).length ≤ 2 := by
  unfold nextS
  simp only
  repeat' split
  all_goals simp
theorem nextS_ne (n x i : Int) : nextS n x i ≠ [] := by
  unfold nextS
  simp only
  repeat' split
  all_goals simp
/-- Whoever goes on from what is to be done, never from the place that is shut. -/
def fromF (nx : Nat → List Int) (shut : Int) : Nat → List Int → List Bool → Option (List Bool)
  | 0, _, _ => none
  | f + 1, todo, out => match todo.getLast? with
    | none => some out
    | some a => if 0 ≤ a ∧ a ≠ shut ∧ out.getD a.toNat true = false then fromF nx shut f (todo.dropLast ++ nx a.toNat) (out.set a.toNat true)
      else fromF nx shut f todo.dropLast out
theorem fromF_at (nx : Nat → List Int) (shut : Int) (k : Nat) (ys : List Int) (a : Int) (out : List Bool) :
    fromF nx shut (k + 1) (ys ++ [a]) out = if 0 ≤ a ∧ a ≠ shut ∧ out.getD a.toNat true = false then fromF nx shut k (ys ++ nx a.toNat) (out.set a.toNat true) else fromF nx shut k ys out := by
  simp [fromF]
theorem nextS_in (n : Nat) (x i : Int) : ∀ y ∈ nextS n x i, -1 ≤ y ∧ y < n := by
  have hp : ∀ z : Int, -1 ≤ plS n z ∧ plS n z < n := fun z => by
    unfold plS
    split <;> omega
  intro y hy
  have h1 := hp (fdS x)
  have h2 := hp (i + 2)
  have h3 := hp (i + 1)
  unfold nextS at hy
  simp only at hy
  repeat' split at hy
  all_goals simp at hy
  all_goals first | (subst hy; omega) | (rcases hy with rfl | rfl <;> omega)
theorem own_below {w w' : World} {B : Nat} {e : TypeId} {size : Nat} {v : Value} {n : Nat} {xs : List Value} (h : w.ownsRow B e size v n xs) (hb : Below w.heap.size w w') : w'.ownsRow B e size v n xs := by
  obtain ⟨h1, h2⟩ := h
  refine ⟨h1, ?_⟩
  rcases h2 with h2 | ⟨g, cap, cur, hv, hg, hh, hr⟩
  · exact Or.inl h2
  · exact Or.inr ⟨g, cap, cur, hv, hg, by rw [hb.block g (Array.getElem?_eq_some_iff.1 hh).1]; exact hh, hr⟩
theorem Try.infoI : (Try.prog.info? 3).map (fun i => (i.zero, i.size, i.bytes)) = some (some (.int .i64 0), 1, 8) := by kernel_rfl
theorem Try.infoB : (Try.prog.info? 4).map (fun i => (i.zero, i.size, i.bytes)) = some (some (.bool false), 1, 1) := by kernel_rfl
set_option maxRecDepth 10000 in
set_option maxHeartbeats 4000000 in
theorem from_any (v0 v1 v3 v4 v5 : Value) (b o len cap base : Nat) (ws : Nat → Int) (hws : ∀ i, i < len → 0 ≤ ws i ∧ ws i < 4294967296) (hl : len ≤ 40) (w : World) (hb : b < base) (hbase : base ≤ w.heap.size)
    (hc : ∀ i, i < len → w.cell? ⟨b, o + i, none⟩ = some (.int .u32 (ws i))) (tv : Value) (l : List Int) (hT : Ints base w tv l) (hin : ∀ x ∈ l, -1 ≤ x ∧ x < len) (shut : Int) (k0 : Nat) (R : List Bool)
    (hk0 : l.length + k0 ≤ 100000) (hR : fromF (fun i => nextS len (ws i) i) shut k0 l (List.replicate len false) = some R) :
    Calls Try.prog 48 #[.agg #[v0, v1, .slice (some ⟨b, o, none⟩) len cap, v3, v4, v5], tv, .int .i64 shut] w fun e w' => ∃ v, e = .returned v ∧ Below base w w' ∧ w'.ownsRow w.heap.size 4 1 v len (R.map Value.bool) := by
  obtain ⟨iB, hiB, zB0, zB1, zB2⟩ := info_parts Try.infoB
  obtain ⟨iI, hiI, zI0, zI1, zI2⟩ := info_parts Try.infoI
  go_enter Try.func48, Try.ntmps48
  go_wp2_with (refine wpList_make_full _ rfl _ _ 54 rfl w.heap.size 4 iB (.bool false) 1 Try.underlying54 hiB zB0 zB1 .i64 .i64 _ _ len rfl rfl rfl rfl ?_ ?_ ?_ ?_)
  · rw [zB2]; omega
  · unfold maxLen; omega
  · simp
  intro w1 hO hG
  obtain ⟨g1, rfl⟩ := make_out hO hG (by simp)
  clear hO hG
  go_wp2
  have hmade : (madeCells #[Value.bool false] len).toList = (List.replicate len false).map Value.bool := by
    rw [toList_madeCells_one, List.map_replicate]
  rw [hmade]
  clear hmade
  have HR := hid hR
  have HT := hid hT
  have Hin := hid hin
  have Hws := hid hws
  have Hc := hid hc
  clear hR hin hws hc hT
  go_loopg [1] k0 (fun k tv wr => ∃ (todo : List Int) (out : List Bool), Below base w wr ∧ wr.heap[w.heap.size]? = some (.cells #[v0, v1, .slice (some ⟨b, o, none⟩) len cap, v3, v4, v5] 48 (0, 0)) ∧ wr.heap[w.heap.size + 1]? = some (.cells (out.map Value.bool).toArray 4 (0, 0)) ∧ Ints base wr tv todo ∧
    Hid (out.length = len ∧ (∀ x ∈ todo, -1 ≤ x ∧ x < len) ∧ todo.length + k ≤ l.length + k0 ∧ fromF (fun i => nextS len (ws i) i) shut k todo out = some R))
  case atStart =>
    have hb0 : Below w.heap.size w (grow ((w.alloc (.cells #[v0, v1, .slice (some ⟨b, o, none⟩) len cap, v3, v4, v5] 48)).alloc (.cells ((List.replicate len false).map Value.bool).toArray 4)) g1) := by
      repeat (first | exact Below.refl _ _ | refine bG ?_ _ | refine bI ?_ _ _ | refine bA ?_ _)
    refine ⟨l, List.replicate len false, hb0.mono hbase, ?_, ?_, Ints_below HT.out hb0, by simp, Hin.out, by omega, HR.out⟩
    · rw [heap_grow _ _ _ (by simp; omega), heap_alloc_old _ _ (by simp)]
      exact heap_alloc_new _ _
    · rw [heap_grow _ _ _ (by simp)]
      have := heap_alloc_new (w.alloc (.cells #[v0, v1, .slice (some ⟨b, o, none⟩) len cap, v3, v4, v5] 48)) (.cells ((List.replicate len false).map Value.bool).toArray 4)
      rwa [show (w.alloc (.cells #[v0, v1, .slice (some ⟨b, o, none⟩) len cap, v3, v4, v5] 48)).heap.size = w.heap.size + 1 by simp] at this
  case round =>
    obtain ⟨todo, out, hB, hP, hO, hT, hF⟩ := hrel
    have HF := hF
    clear hF
    obtain ⟨hlen, hin, hsum, hF⟩ := HF.out
    cases gk with
    | zero => simp [fromF] at hF
    | succ k =>
      rcases List.eq_nil_or_concat todo with rfl | ⟨ys, a, htd⟩
      · have : out = R := by simpa [fromF] using hF
        subst this
        obtain ⟨p, c, rfl, _⟩ := hT.out
        clear hin hsum hF hT HF
        go_wp2
        go_ret
        refine ⟨_, rfl, hB, ?_⟩
        refine ⟨by simpa using hlen, Or.inr ⟨w.heap.size + 1, len, (out.map Value.bool).toArray, rfl, by omega, hO, Nat.le_refl _, by unfold maxLen; omega, by simpa using hlen, ?_⟩⟩
        rw [Nat.mul_one, List.take_of_length_le (by simp; omega)]
      · rw [List.concat_eq_append] at htd
        subst htd
        have hT0 := hT
        unfold Ints at hT0
        simp only [List.map_append, List.map_cons, List.map_nil, List.length_append, List.length_cons, List.length_nil, Nat.zero_add] at hT0
        obtain ⟨htl, hrow⟩ := hT
        rcases hrow with ⟨_, h0⟩ | ⟨g, cap', cur, rfl, hbg, hg, hn, hcap, hcs, htake⟩
        · simp at h0
        have hown0 : wr.ownsRow base 3 1 (.slice (some ⟨g, 0, none⟩) ys.length cap') ys.length (ys.map (Value.int .i64)) :=
          ownsRow_pop (last := [.int .i64 a]) (by simp) (by rw [show (ys ++ [a]).length = ys.length + 1 by simp] at hT0; exact hT0)
        have hcell : cur[ys.length]? = some (.int .i64 a) := by
          have h1 : (cur.toList.take ((ys ++ [a]).length * 1))[ys.length]? = some (.int .i64 a) := by rw [htake]; simp
          rw [List.getElem?_take_of_lt (by simp)] at h1
          simpa using h1
        have hlast : wr.cell? ⟨g, ys.length, none⟩ = some (.int .i64 a) := by
          simp [World.cell?, hg, hcell]
        have hm1 : wrap64 (ys.length : Int) = (ys.length : Int) := by
          have := hsum; simp at this
          exact IntWalk.wrap64_in (ys.length : Int) (by omega)
        have ha := hin a (by simp)
        have hin' : ∀ x ∈ ys, -1 ≤ x ∧ x < len := fun x hx => hin x (by simp [hx])
        have hn' : ys.length + 1 ≤ cap' := by simpa using hn
        have hle1 : (0 : Int) ≤ (ys.length : Int) := by omega
        have hle2 : (ys.length : Int) ≤ (cap' : Int) := by omega
        have hlt2 : (ys.length : Int) < (ys.length : Int) + 1 := by omega
        have hgt : (0 : Int) < (ys.length : Int) + 1 := by omega
        have hcast : (((ys ++ [a]).length : Nat) : Int) = (ys.length : Int) + 1 := by simp
        have hNl : (ys ++ [a]).length = ys.length + 1 := by simp
        have Hin' := hid hin'
        have HF' := hid hF
        have Hsum := hid hsum
        clear hin hin' hF HF hT0 hsum htl htake hn hcell hcs hg HR
        rw [hNl]
        clear hNl hcast
        generalize hnn : ys.length = n at *
        have Hnn := hid hnn
        clear hnn
        by_cases ha0 : a < 0
        · go_wp2
          go_roundg k
          case measure => omega
          case rel =>
            have h1 := HF'.out
            rw [fromF_at, if_neg (by omega)] at h1
            exact ⟨ys, out, hB, hP, hO, by unfold Ints; rw [Hnn.out]; exact hown0, hlen, Hin'.out, by have := Hsum.out; simp at this; omega, h1⟩
        · obtain ⟨i, rfl⟩ : ∃ i : Nat, a = i := ⟨a.toNat, by omega⟩
          have hi : i < len := by omega
          have hi0 : (0 : Int) ≤ (i : Int) := by omega
          have hi1 : (i : Int) < (len : Int) := by omega
          have hcO : wr.cell? ⟨w.heap.size + 1, i, none⟩ = some (.bool (out.getD i true)) := by
            simp [World.cell?, hO, show i < out.length by omega, List.getD]
          clear ha ha0
          by_cases hsh : (i : Int) = shut
          · have hs : ((i : Int) != shut) = false := by simp [hsh]
            have Hsh := hid hsh
            clear hsh
            go_wp2
            go_roundg k
            case measure => omega
            case rel =>
              have h1 := HF'.out
              rw [fromF_at, if_neg (fun h => h.2.1 Hsh.out)] at h1
              exact ⟨ys, out, hB, hP, hO, by unfold Ints; rw [Hnn.out]; exact hown0, hlen, Hin'.out, by have := Hsum.out; simp at this; omega, h1⟩
          · have hs : ((i : Int) != shut) = true := by simp [hsh]
            have Hsh := hid hsh
            clear hsh
            cases hv : out.getD i true with
            | true =>
              rw [hv] at hcO
              have Hv := hid hv
              clear hv
              go_wp2
              go_roundg k
              case measure => omega
              case rel =>
                have h1 := HF'.out
                rw [fromF_at, if_neg (fun h => by have := h.2.2; rw [Int.toNat_natCast, Hv.out] at this; cases this)] at h1
                exact ⟨ys, out, hB, hP, hO, by unfold Ints; rw [Hnn.out]; exact hown0, hlen, Hin'.out, by have := Hsum.out; simp at this; omega, h1⟩
            | false =>
              rw [hv] at hcO
              have Hv := hid hv
              clear hv
              have hgO : g ≠ w.heap.size + 1 := fun e => by
                subst e
                rcases hown0.2 with ⟨h0, _⟩ | ⟨g', _, _, h0, _, h1, _⟩
                · cases h0
                · cases h0; rw [hO] at h1; cases h1
              have hgP : g ≠ w.heap.size := fun e => by
                subst e
                rcases hown0.2 with ⟨h0, _⟩ | ⟨g', _, _, h0, _, h1, _⟩
                · cases h0
                · cases h0; rw [hP] at h1; cases h1
              obtain ⟨W1, hW1⟩ : ∃ W1, W1 = wr.setCell ⟨w.heap.size + 1, i, none⟩ (.bool true) := ⟨_, rfl⟩
              have hsz1 : W1.heap.size = wr.heap.size := by rw [hW1]; simp [World.setCell]
              have hB1 : Below base w W1 := by rw [hW1]; exact hB.setCell (by simp; omega) _
              have hP1 : W1.heap[w.heap.size]? = some (.cells #[v0, v1, .slice (some ⟨b, o, none⟩) len cap, v3, v4, v5] 48 (0, 0)) := by
                rw [hW1, Below.heap_setCell _ _ _ _ (by simp)]; exact hP
              have hO1 : W1.heap[w.heap.size + 1]? = some (.cells ((out.set i true).map Value.bool).toArray 4 (0, 0)) := by
                rw [hW1]
                simp [World.setCell, Array.getElem?_modify, hO, List.map_set]
              have hown1 : W1.ownsRow base 3 1 (.slice (some ⟨g, 0, none⟩) n cap') n (ys.map (Value.int .i64)) := by
                obtain ⟨q1, q2⟩ := hown0
                refine ⟨q1, ?_⟩
                rcases q2 with ⟨h0, _⟩ | ⟨g', cap2, cur2, h0, k1, k2, k3⟩
                · cases h0
                · cases h0
                  exact .inr ⟨g, cap', cur2, rfl, k1, by rw [hW1, Below.heap_setCell _ _ _ _ (by simpa using hgO)]; exact k2, k3⟩
              have hc0 : W1.cell? ⟨w.heap.size, 0, none⟩ = some v0 := by simp [World.cell?, hP1]
              have hc1 : W1.cell? ⟨w.heap.size, 1, none⟩ = some v1 := by simp [World.cell?, hP1]
              have hc2 : W1.cell? ⟨w.heap.size, 2, none⟩ = some (.slice (some ⟨b, o, none⟩) len cap) := by simp [World.cell?, hP1]
              have hc3 : W1.cell? ⟨w.heap.size, 3, none⟩ = some v3 := by simp [World.cell?, hP1]
              have hc4 : W1.cell? ⟨w.heap.size, 4, none⟩ = some v4 := by simp [World.cell?, hP1]
              have hc5 : W1.cell? ⟨w.heap.size, 5, none⟩ = some v5 := by simp [World.cell?, hP1]
              have hbs : b < W1.heap.size := by have := hB1.size; omega
              have hwi := Hws.out i hi
              have hcw : W1.cell? ⟨b, o + i, none⟩ = some (.int .u32 (ws i)) := by
                exact (hB1.cell (p := ⟨b, o + i, none⟩) hb).trans (Hc.out i hi)
              have hfree : wr.frozen? ⟨w.heap.size + 1, i, none⟩ = false := by
                simp [World.frozen?, hO]
              clear hP hO hB hown0
              have HW1 := hid hW1.symm
              have hset : wr.setCell ⟨w.heap.size + 1, i, none⟩ (.bool true) = W1 := hW1.symm
              clear hW1
              have Hown1 := hid hown1
              have HB1 := hid hB1
              clear hown1 hB1
              go_wp2_with (first
                | (go_at_call 24; refine (next_inn v0 v1 v3 v4 v5 b o len cap i (ws i) hwi.1 hwi.2 hi (by omega) W1 hbs hcw).mono ?_; rintro e w2 ⟨nv, rfl, hb2, hI2⟩; obtain ⟨np, ncap, rfl, hnp⟩ := hI2.out; obtain ⟨nb, no, rfl, hnb, hnlt, hncell⟩ := hnp (nextS_ne _ _ _); clear hnp hc0 hc1 hc2 hc3 hc4 hc5)
                | (refine wpList_append_own _ rfl _ _ 46 rfl base 3 iI (.int .i64 0) 1 8 Try.underlying46 hiI zI0 zI1 zI2 rfl (by decide) (.slice (some ⟨g, 0, none⟩) n cap') n (ys.map (Value.int .i64)) rfl ?own ⟨nb, no, none⟩ (nextS len (ws i) i).length ncap ((nextS len (ws i) i).map (Value.int .i64)) rfl (by simp) ?news ?one ?h63 ?hby ?hba ?rest))
              case own => exact own_below Hown1.out hb2
              case news =>
                intro j u hj
                rw [List.getElem?_map] at hj
                obtain ⟨z, hz, rfl⟩ := Option.map_eq_some_iff.1 hj
                obtain ⟨hjl, rfl⟩ := List.getElem?_eq_some_iff.1 hz
                have := hncell j hjl
                rcases Nat.eq_zero_or_pos j with h00 | h00
                · subst h00; exact this
                · have h01 : ¬ j = 0 := by omega
                  rw [show Addr.add ⟨nb, no, none⟩ j = ⟨nb, no + j, none⟩ by simp [Addr.add, h01]]; exact this
              case one => intro u hu; simp at hu; obtain ⟨z, _, rfl⟩ := hu; rfl
              case h63 =>
                have h1 := Hsum.out
                have h2 := Hnn.out
                have h3 := nextS_len len (ws i) i
                simp at h1
                unfold maxLen; omega
              case hby =>
                have h1 := Hsum.out
                have h2 := Hnn.out
                have h3 := nextS_len len (ws i) i
                simp at h1
                omega
              case hba => have := HB1.out.size; have := hb2.size; omega
              case rest =>
                intro v' w3 hown3 hgr3 _
                go_wp2
                go_roundg k
                case measure => omega
                case rel =>
                  have h1 := HF'.out
                  rw [fromF_at, if_pos ⟨by omega, Hsh.out, by rw [Int.toNat_natCast]; exact Hv.out⟩, Int.toNat_natCast] at h1
                  have hlt : w.heap.size + 1 < W1.heap.size := (Array.getElem?_eq_some_iff.1 hO1).1
                  have hs2 := hb2.size
                  refine ⟨ys ++ nextS len (ws i) i, out.set i true, ?_, ?_, ?_, ?_, by simpa using hlen, ?_, ?_, h1⟩
                  · refine Below.grown (HB1.out.trans (hb2.mono (by omega))) hgr3 (by omega) fun q hq => ?_
                    simp [Value.ownBlock] at hq
                    omega
                  · rw [hgr3.block _ (by omega) (by simp [Value.ownBlock]; omega), hb2.block _ (by omega)]; exact hP1
                  · rw [hgr3.block _ (by omega) (by simp [Value.ownBlock]; omega), hb2.block _ (by omega)]; exact hO1
                  · unfold Ints
                    rw [List.length_append, Hnn.out, List.map_append]
                    exact hown3
                  · intro z hz
                    rcases List.mem_append.1 hz with hz | hz
                    · exact Hin'.out z hz
                    · exact nextS_in _ _ _ z hz
                  · have h2 := Hsum.out
                    have h3 := nextS_len len (ws i) i
                    simp at h2 ⊢
                    omega
end Go.Proofs.Ytjocifamacpamaa

