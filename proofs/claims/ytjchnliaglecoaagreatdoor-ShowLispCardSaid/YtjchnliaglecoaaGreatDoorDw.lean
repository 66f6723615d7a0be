/- tree.Deep, walked. Conditions: few nodes. -/
import Derived.Lib.OwnKind
import Derived.Outline
import Derived.Deep.QuietTactic
import Derived.BigQuiet
import Derived.Test.YtjchnliaglecoaaGreatDoorDp
import Derived.Test.YtjchnliaglecoaaGreatDoorMake
set_option linter.unusedVariables false
set_option linter.unusedSimpArgs false
namespace Go.Proofs.YtjchnliaglecoaaGreatDoor
open Go Go.RowKit Go.Nodes Go.WideShapes
set_option linter.unusedVariables false
set_option linter.unusedSimpArgs false
theorem Tryz.infoI : (Tryz.prog.info? 3).map (fun i => (i.zero, i.size, i.bytes)) = some (some (.int .i64 0), 1, 8) := by kernel_rfl
def _root_.Go.Proofs.YtjchnliaglecoaaGreatDoor.Gro.put (g : Gro) (o : Obj) : Gro := ⟨g.blocks.push o, g.drawn⟩
theorem alloc_grow (A : World) (g : Gro) (o : Obj) : (grow A g).alloc o = grow A (Gro.put g o) := by
  simp [grow, World.alloc, Gro.put]
theorem drew_grow (A : World) (g : Gro) : (grow A g).drew = grow A ⟨g.blocks, (grow A g).drew.drawn⟩ := rfl
theorem drewN_grow (A : World) (g : Gro) (k : Nat) : (grow A g).drewN k = grow A ⟨g.blocks, ((grow A g).drewN k).drawn⟩ := rfl
set_option maxRecDepth 10000 in
set_option maxHeartbeats 4000000 in
theorem deep_any (p : Option Addr) (c : Nat) (xs : List Nd) (w : World) (ha : NodesAt w p xs) (hs : Small xs) :
    Calls Tryz.prog 93 #[.slice p xs.length c] w fun e w' => e = .returned (.int .i64 (deepOf xs)) ∧ Below w.heap.size w w' := by
  obtain ⟨iI, hiI, zI0, zI1, zI2⟩ := info_parts Tryz.infoI
  have Ha := hid ha
  have Hs := hid hs
  clear ha hs
  obtain ⟨n, hn⟩ : ∃ n, n = xs.length := ⟨_, rfl⟩
  rw [← hn]
  have hn5 : (n : Int) ≤ 5000 := by have := Hs.out.1; omega
  have Hn := hid hn
  clear hn
  go_enter Tryz.func93, Tryz.ntmps93
  go_wp2_with (refine wpList_make_full _ rfl _ _ 26 rfl w.heap.size 3 iI (.int .i64 0) 1 Tryz.underlying26 hiI zI0 zI1 .i64 .i64 _ _ (n + 1) rfl rfl (by go_num) (by go_num) ?_ ?_ ?_ ?_)
  · rw [zI2]; omega
  · unfold maxLen; omega
  · simp
  intro w1 hO hG
  obtain ⟨g1, rfl⟩ := make_out hO hG (by simp)
  clear hO hG
  have hmade : (madeCells #[Value.int .i64 0] (n + 1)).toList = (List.replicate (n + 1) (0 : Int)).map (Value.int .i64) := by
    rw [toList_madeCells_one, List.map_replicate]
  rw [hmade]
  clear hmade hiI zI0 zI1 zI2
  go_wp2
  go_loopw [14] (fun i wr => ∃ (k : Nat) (row : List Int) (g : Gro), k ≤ n ∧ i = .int .i64 k ∧ wr = grow (w.alloc (.cells (row.map (Value.int .i64)).toArray 3)) g ∧
    Hid (∃ ds : List Int, row = ds ++ List.replicate (n + 1 - k) 0 ∧ ds.length = k ∧ (∀ d ∈ ds, 0 ≤ d ∧ d ≤ k) ∧ deepsF (xs.drop k) ds = deepsF xs [])) (fun i _ => n - (intOf i).toNat)
  case atStart => exact ⟨0, List.replicate (n + 1) 0, g1, by omega, rfl, by simp, [], by simp, rfl, by simp, rfl⟩
  case round =>
    obtain ⟨k, row, g, hk, rfl, rfl, hR⟩ := hrel
    by_cases hlt : k < n
    · have h0 := Ha.out.2.2
      rcases h0 with h0 | ⟨b, o, hp, hb, hc⟩
      · subst h0; have := Hn.out; simp at this; omega
      subst hp
      have hkx : k < xs.length := by have := Hn.out; omega
      replace hc := hc k hkx
      have hf := Ha.out.2.1 xs[k] (List.getElem_mem hkx)
      have hsm := Hs.out.2 xs[k] (List.getElem_mem hkx)
      have hdd := deepsF_drop xs k hkx
      generalize xs[k] = x at *
      obtain ⟨kind, text, kp, kcap, kids, place⟩ := x
      simp only at hc hdd hsm
      have c0 := hc.1
      have c1 := hc.2.1
      have c2 := hc.2.2.1
      have c3 := hc.2.2.2
      have hk0 : (0 : Int) ≤ (k : Int) := by omega
      have hk1 : (k : Int) < (n : Int) := by omega
      have hk2 : (k : Int) < (n : Int) + 1 := by omega
      have hfk := hf.2.2.2.2.2
      obtain ⟨ds, hrow, hdl, hdb, hdp⟩ := hR.out
      have hkl := hsm.1
      obtain ⟨q, hq⟩ : ∃ q, q = kids.length := ⟨_, rfl⟩
      rw [← hq] at c2
      have hq1 : (q : Int) ≤ 20000 := by omega
      have Hq := hid hq
      have Hx := hid hfk
      have Hdd := hid hdd
      have Hrow := hid hrow
      have Hdl := hid hdl
      have Hdb := hid hdb
      have Hdp := hid hdp
      clear hc hf hsm hR hdd hfk hrow hdl hdb hdp hkl hq
      go_wp2
      go_loopw [22] (fun i w2 => ∃ (j : Nat) (row2 : List Int) (g2 : Gro), j ≤ q ∧ i = .int .i64 j ∧ w2 = grow (w.alloc (.cells (row2.map (Value.int .i64)).toArray 3)) g2 ∧
        Hid (∃ m : Int, row2 = ds ++ m :: List.replicate (n - k) 0 ∧ 0 ≤ m ∧ m ≤ k ∧ kidMax ds (kids.drop j) m = kidMax ds kids 0)) (fun i _ => q - (intOf i).toNat)
      case atStart =>
        refine ⟨0, row, _, by omega, rfl, alloc_grow _ _ _, 0, ?_, by omega, by omega, rfl⟩
        rw [Hrow.out, show n + 1 - k = (n - k) + 1 by omega, List.replicate_succ]
      case round =>
        obtain ⟨j, row2, g2, hj, rfl, rfl, hR⟩ := hrel
        by_cases hjq : j < q
        · rcases Hx.out with ix | ⟨bx, ox, hpx, hbx, hcx⟩
          · subst ix; have := Hq.out; simp at this; omega
          subst hpx
          have hjk : j < kids.length := by have := Hq.out; omega
          replace hcx := hcx j hjk
          have hkm := kidMax_drop ds kids j hjk
          generalize kids[j] = u at *
          have q0 : (0 : Int) ≤ (j : Int) := by omega
          have q1 : (j : Int) < (q : Int) := by omega
          obtain ⟨m, hrow2, hm0, hm1, hmk⟩ := hR.out
          have hdl := Hdl.out
          have hr1 : row2[k]? = some m := by rw [hrow2, List.getElem?_append_right (by omega)]; simp [hdl]
          have Hkm := hid hkm
          have Hrow2 := hid hrow2
          have Hmk := hid hmk
          have Hdl' := hid hdl
          clear hkm hrow2 hmk hdl hR
          by_cases hu : 0 ≤ u ∧ u < (k : Int)
          · have hr2 : row2[u.toNat]? = some (ds.getD u.toNat 0) := by
              have := Hdl.out
              rw [Hrow2.out, List.getElem?_append_left (by omega), List.getD, List.getElem?_eq_getElem (by omega)]; rfl
            have hdu : 0 ≤ ds.getD u.toNat 0 ∧ ds.getD u.toNat 0 ≤ (k : Int) := by
              have h1 := Hdl.out
              have h2 : u.toNat < ds.length := by omega
              rw [List.getD, List.getElem?_eq_getElem h2]
              exact Hdb.out _ (List.getElem_mem h2)
            have hkm := Hkm.out m
            rw [if_pos (by have := Hdl.out; omega)] at hkm
            generalize ds.getD u.toNat 0 = du at *
            have Hkm2 := hid hkm
            have Hdu := hid hdu
            have u0 := hu.1
            have u1 := hu.2
            have u2 : u < (n : Int) + 1 := by omega
            clear hu hkm hdu Hkm
            go_wp2
            go_region
            go_wp2
            have hmax : (if m < du then du else m) = max m du := by split <;> omega
            first | rw [hmax, drew_grow] | rw [drew_grow]
            refine ⟨⟨j + 1, row2.set k (max m du), _, by omega, by go_num, by rw [List.map_set], max m du, ?_, ?_, ?_, ?_⟩, ?_⟩
            · rw [Hrow2.out, List.set_append_right _ _ (by rw [Hdl'.out]; exact Nat.le_refl _), Hdl'.out]; simp
            · have := Hdu.out; omega
            · have := Hdu.out; omega
            · rw [← Hkm2.out]; exact Hmk.out
            · simp [intOf]; omega
          · have hkm := Hkm.out m
            rw [if_neg (by have := Hdl.out; omega)] at hkm
            have Hkm2 := hid hkm
            clear hkm Hkm
            by_cases hu0 : u < 0
            · clear hu
              go_wp2
              go_roundw
              case rel => exact ⟨j + 1, row2, _, by omega, by go_num, rfl, m, Hrow2.out, hm0, hm1, by rw [← Hkm2.out]; exact Hmk.out⟩
              case measure => simp [intOf]; omega
            · have hu1 : (k : Int) ≤ u := by omega
              have hu2 : 0 ≤ u := by omega
              clear hu hu0
              go_wp2
              go_roundw
              case rel => exact ⟨j + 1, row2, _, by omega, by go_num, rfl, m, Hrow2.out, hm0, hm1, by rw [← Hkm2.out]; exact Hmk.out⟩
              case measure => simp [intOf]; omega
        · obtain rfl : j = q := by omega
          obtain ⟨m, hrow2, hm0, hm1, hmk⟩ := hR.out
          have hdl := Hdl.out
          have hr1 : row2[k]? = some m := by rw [hrow2, List.getElem?_append_right (by omega)]; simp [hdl]
          have Hrow2 := hid hrow2
          have Hmk := hid hmk
          have Hdl' := hid hdl
          clear hrow2 hmk hdl hR
          go_wp2
          have hdl := Hdl.out
          have hm2 : m = kidMax ds kids 0 := by
            have h := Hmk.out
            rw [Hq.out, List.drop_length] at h
            exact h
          refine ⟨⟨k + 1, row2.set k (m + 1), g2, by omega, by go_num, by rw [List.map_set], ds ++ [m + 1], ?_, by simp [hdl], fun d hd => ?_, ?_⟩, by simp [intOf]; omega⟩
          · rw [Hrow2.out, List.set_append_right _ _ (by omega), hdl, show n + 1 - (k + 1) = n - k by omega]; simp
          · rcases List.mem_append.1 hd with h | h
            · have := Hdb.out d h; omega
            · simp at h; omega
          · rw [hm2, ← Hdd.out, Hdp.out]
    · obtain rfl : k = n := by omega
      obtain ⟨ds, hrow, hdl, hdb, hdp⟩ := hR.out
      have hds : ds = deepsF xs [] := by rw [← hdp, Hn.out, List.drop_length]; rfl
      have hrow2 : row = ds ++ [0] := by rw [hrow, show k + 1 - k = 1 by omega]; rfl
      have hans : deepOf xs = lastD ds := by rw [hds]; rfl
      by_cases hk0 : k = 0
      · have hd0 : ds = [] := List.eq_nil_of_length_eq_zero (by omega)
        have hr0 : row[0]? = some 0 := by rw [hrow2, hd0]; rfl
        have e : lastD ds = 0 := by rw [hd0]; rfl
        have Hans := hid (hans.trans e)
        have hk1 : (k : Int) - 1 < 0 := by omega
        clear hR hrow hdl hdb hdp hds hrow2 hans hd0 e
        go_wp2
        go_ret
        exact ⟨by rw [Hans.out]; rfl, by repeat (first | exact Below.refl _ _ | refine bG ?_ _ | refine bI ?_ _ _ | refine bA ?_ _)⟩
      · have hr0 : row[k - 1]? = some (lastD ds) := by
          rw [hrow2, List.getElem?_append_left (by omega), lastD, List.getLastD_eq_getLast?, List.getLast?_eq_getElem?, hdl, List.getElem?_eq_getElem (by omega)]
          rfl
        have hk1 : ¬ ((k : Int) - 1 < 0) := by omega
        have hk2 : ((k : Int) - 1).toNat = k - 1 := by omega
        have hk3 : (k : Int) - 1 < (k : Int) + 1 := by omega
        generalize lastD ds = z at *
        have Hans := hid hans
        clear hR hrow hdl hdb hdp hds hrow2 hans
        go_wp2
        go_ret
        exact ⟨by rw [Hans.out]; rfl, by repeat (first | exact Below.refl _ _ | refine bG ?_ _ | refine bI ?_ _ _ | refine bA ?_ _)⟩
end Go.Proofs.YtjchnliaglecoaaGreatDoor
