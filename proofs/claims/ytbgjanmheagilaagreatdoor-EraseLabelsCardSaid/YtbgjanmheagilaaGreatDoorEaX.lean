/- The reference's Check: what is reckoned, and the walk. Conditions: few nodes. -/
import Derived.Test.YtbgjanmheagilaaGreatDoorApX
import Derived.Test.YtbgjanmheagilaaGreatDoorSv
import Derived.Test.YtbgjanmheagilaaGreatDoorDr
set_option linter.unusedVariables false
set_option linter.unusedSimpArgs false
namespace Go.Proofs.YtbgjanmheagilaaGreatDoor
open Go Go.RowKit Go.Nodes
set_option linter.unusedVariables false
set_option linter.unusedSimpArgs false
/-- Kids that stand ahead and are nobody's yet. -/
def kidsU (n : Nat) : List Int → List Bool → Option (List Bool)
  | [], u => some u
  | k :: l, u => if 0 ≤ k ∧ k < n ∧ u.getD k.toNat false = false then kidsU n l (u.set k.toNat true) else none
def okB (ns : List Nd) (x : Nd) : Bool :=
  decide (0 ≤ x.place) && (decide (1 ≤ x.kind ∧ x.kind ≤ 36) && fitsF (formOf x.kind.toNat) (kindsL ns x.kids)) && textS x.kind.toNat x.text.data.toList x.kids.length && extraS ns x
/-- The first that is not as it should be; whose kids are somebody's. -/
def scanF (ns : List Nd) : List Nd → Nat → List Bool → Option Nat × List Bool
  | [], _, u => (none, u)
  | x :: l, n, u => match kidsU n x.kids u with
    | none => (some n, u)
    | some u2 => if okB ns x then scanF ns l (n + 1) u2 else (some n, u2)
theorem kidsU_drop (n : Nat) (l : List Int) (j : Nat) (hj : j < l.length) (u : List Bool) : kidsU n (l.drop j) u = if 0 ≤ l[j] ∧ l[j] < n ∧ u.getD l[j].toNat false = false then kidsU n (l.drop (j + 1)) (u.set l[j].toNat true) else none := by
  rw [List.drop_eq_getElem_cons hj]; rfl
theorem kidsU_len (n : Nat) : ∀ (l : List Int) (u v : List Bool), kidsU n l u = some v → v.length = u.length
  | [], u, v, h => by simp [kidsU] at h; rw [h]
  | k :: l, u, v, h => by
    unfold kidsU at h
    split at h
    · have := kidsU_len n l _ _ h; simpa using this
    · cases h
theorem kidsU_in (n : Nat) : ∀ (l : List Int) (u v : List Bool), kidsU n l u = some v → ∀ k ∈ l, 0 ≤ k ∧ k < n
  | [], _, _, _, k, hk => by cases hk
  | a :: l, u, v, h, k, hk => by
    unfold kidsU at h
    split at h
    · rename_i h2
      rcases List.mem_cons.1 hk with rfl | hk
      · exact ⟨h2.1, h2.2.1⟩
      · exact kidsU_in n l _ _ h k hk
    · cases h
theorem Ints_setCell {B : Nat} {w : World} {v : Value} {l : List Int} (h : Ints B w v l) {n i : Nat} (x : Value) (hn : n < B) : Ints B (w.setCell ⟨n, i, none⟩ x) v l := by
  obtain ⟨h1, h2⟩ := h
  refine ⟨h1, ?_⟩
  rcases h2 with h2 | ⟨g, cap, cur, hv, hg, hh, hr⟩
  · exact .inl h2
  · exact .inr ⟨g, cap, cur, hv, hg, by rw [Below.heap_setCell _ _ _ _ (by simp; omega)]; exact hh, hr⟩
theorem used_set (w : World) (cs : Array Value) (g g2 : Gro) (box : Obj) (k : Nat) (v : Value) : (grow ((grow (w.alloc (.cells cs 4)) g).alloc box) g2).setCell ⟨w.heap.size, k, none⟩ v = grow ((grow (w.alloc (.cells (cs.setIfInBounds k v) 4)) g).alloc box) g2 := by
  rw [setCell_grow _ _ _ _ _ (by simp; omega), World.setCell_alloc_past _ _ _ _ (by simp; omega), setCell_grow _ _ _ _ _ (by simp), World.setCell_alloc_at _ _ _ _ _ rfl]
theorem Tryz.infoB : (Tryz.prog.info? 4).map (fun i => (i.zero, i.size, i.bytes)) = some (some (.bool false), 1, 1) := by kernel_rfl
def ErrPost (n e1 : Int) (w : World) (e : Ending) (w' : World) : Prop := e = .returned (.tuple #[.int .i64 n, .int .i64 e1]) ∧ Below w.heap.size w w'
/-- What both Checks answer. -/
def rootOK (ns : List Nd) (u : List Bool) : Bool := (List.range ns.length).all fun n => decide ((kindAt ns n = 1) ↔ (n + 1 = ns.length)) && decide (u.getD n false = decide (n + 1 ≠ ns.length))
def checkS (ns : List Nd) : Int × Int := match scanF ns ns 0 (List.replicate ns.length false) with
  | (some n, _) => (n, 60)
  | (none, u) => if ns.length = 0 then (0, 60) else if rootOK ns u then (if 200 < deepOf ns then (0, 61) else (0, 0)) else ((ns.length : Int) - 1, 60)
/-- The first that is not as it should be, found. -/
theorem check_bad {ns : List Nd} {n : Nat} {us v : List Bool} (h : scanF ns (ns.drop n) n us = scanF ns ns 0 (List.replicate ns.length false)) (h2 : scanF ns (ns.drop n) n us = (some n, v)) : checkS ns = ((n : Int), 60) := by
  unfold checkS
  rw [← h, h2]
theorem IntsAt.later {w w' : World} {p : Option Addr} {xs : List Int} (h : IntsAt w p xs) (hb : Below w.heap.size w w') : IntsAt w' p xs := by
  rcases h with h | ⟨b, o, hp, hbs, hc⟩
  · exact .inl h
  · exact .inr ⟨b, o, hp, Nat.lt_of_lt_of_le hbs hb.size, fun i hi => by rw [← hc i hi]; simp only [World.cell?, hb.block b hbs]⟩
theorem NodesAt.later {w w' : World} {p : Option Addr} {ns : List Nd} (h : NodesAt w p ns) (hb : Below w.heap.size w w') : NodesAt w' p ns := by
  refine ⟨h.1, fun x hx => ?_, ?_⟩
  · obtain ⟨h1, h2, h3, h4, h5, h6⟩ := h.2.1 x hx
    exact ⟨h1, h2, h3, h4, h5, IntsAt.later h6 hb⟩
  · rcases h.2.2 with h0 | ⟨b, o, hp, hbs, hc⟩
    · exact .inl h0
    · exact .inr ⟨b, o, hp, Nat.lt_of_lt_of_le hbs hb.size, fun i hi => by
        have := hc i hi
        simp only [World.cell?, hb.block b hbs] at this ⊢
        exact this⟩
theorem kindsL_map {ns : List Nd} {n : Nat} {kids : List Int} (hv : VPre ns n) (hn : n ≤ ns.length) (hk : ∀ k ∈ kids, 0 ≤ k ∧ k < n) : (kindsL ns kids).map Int.ofNat = kids.map (kindAt ns) ∧ ∀ k ∈ kindsL ns kids, 0 < k ∧ k < 37 := by
  have key : ∀ k ∈ kids, 1 ≤ kindAt ns k ∧ kindAt ns k ≤ 36 := fun k h => by
    obtain ⟨z, rfl⟩ : ∃ z : Nat, k = (z : Int) := ⟨k.toNat, by have := hk k h; omega⟩
    have hz := hk _ h
    have hx : ns[z]? = some (ns[z]'(by omega)) := List.getElem?_eq_getElem (by omega)
    have h2 := hv z _ (by omega) hx
    rw [kindAt_of hx]
    exact ⟨h2.k1, h2.k36⟩
  constructor
  · unfold kindsL
    rw [List.map_map]
    refine List.map_congr_left fun k h => ?_
    have := key k h
    simp only [Function.comp, Int.ofNat_eq_natCast]
    omega
  · intro k h
    unfold kindsL at h
    obtain ⟨a, ha, rfl⟩ := List.mem_map.1 h
    have := key a ha
    omega
theorem scan_bad {ns l : List Nd} {n : Nat} {us us2 : List Bool} {x : Nd} (hk : kidsU n x.kids us = some us2) (hx : okB ns x = false) : scanF ns (x :: l) n us = (some n, us2) := by
  unfold scanF
  simp only [hk, hx]
  rfl
theorem scan_ok {ns l : List Nd} {n : Nat} {us us2 : List Bool} {x : Nd} (hk : kidsU n x.kids us = some us2) (hx : okB ns x = true) : scanF ns (x :: l) n us = scanF ns l (n + 1) us2 := by
  rw [scanF]
  simp only [hk, hx, if_true]
set_option maxRecDepth 10000 in
set_option maxHeartbeats 4000000 in
theorem rcheck_any (w : World) (p : Option Addr) (c : Nat) (ns : List Nd) (hs : Small ns) (hc : Capped ns) (ha : NodesAt w p ns) (hl0 : Lib0 w) :
    Calls Tryz.prog 24 #[.slice p ns.length c] w (ErrPost (checkS ns).1 (checkS ns).2 w) := by
  obtain ⟨iB, hiB, zB0, zB1, zB2⟩ := info_parts Tryz.infoB
  have Ha := hid ha
  have Hs := hid hs
  have Hc := hid hc
  have Hl := hid hl0
  clear ha hs hc hl0
  obtain ⟨L, hL⟩ : ∃ L, L = ns.length := ⟨_, rfl⟩
  rw [← hL]
  have hL5 : (L : Int) ≤ 5000 := by have := Hs.out.1; omega
  have HL := hid hL
  clear hL
  go_enter Tryz.func24, Tryz.ntmps24
  go_wp2_with (refine wpList_make_full _ rfl _ _ 69 rfl w.heap.size 4 iB (.bool false) 1 Tryz.underlying69 hiB zB0 zB1 .i64 .i64 _ _ L rfl rfl (by go_num) (by go_num) ?_ ?_ ?_ ?_)
  · rw [zB2]; omega
  · unfold maxLen; omega
  · simp
  intro w1 hO hG
  obtain ⟨g1, rfl⟩ := make_out hO hG (by simp)
  clear hO hG
  have hmade : (madeCells #[Value.bool false] L).toList = (List.replicate L false).map Value.bool := by
    rw [toList_madeCells_one, List.map_replicate]
  rw [hmade]
  clear hmade hiB zB0 zB1 zB2
  go_wp2
  go_loopw [20] (fun i wr => ∃ (n : Nat) (us : List Bool) (g : Gro), n ≤ L ∧ i = .int .i64 n ∧ wr = grow (w.alloc (.cells (us.map Value.bool).toArray 4)) g ∧ us.length = L ∧
    Hid (VPre ns n ∧ scanF ns (ns.drop n) n us = scanF ns ns 0 (List.replicate L false))) (fun i _ => L - (intOf i).toNat)
  case atStart => exact ⟨0, List.replicate L false, g1, by omega, rfl, by simp, by simp, hid ⟨fun i x h => absurd h (by omega), rfl⟩⟩
  case round =>
    obtain ⟨n, us, g, hn, rfl, rfl, hul, hR⟩ := hrel
    by_cases hlt : n < L
    · have hnx : n < ns.length := by have := HL.out; omega
      obtain ⟨b, o, rfl, hb, hx, hf, c0, c1, c2, c3⟩ := nd_at Ha.out hnx
      have hsm := Hs.out.2 ns[n] (List.getElem_mem hnx)
      have hcap := Hc.out ns[n] (List.getElem_mem hnx)
      have Hdr := hid (List.drop_eq_getElem_cons hnx)
      have Hx := hid hx
      have Hxe : Hid (ns[n] = ns[n]) := hid rfl
      have n0 : (0 : Int) ≤ (n : Int) := by omega
      have n1 : (n : Int) < (L : Int) := by omega
      obtain ⟨q, hq⟩ : ∃ q, q = ns[n].kids.length := ⟨_, rfl⟩
      have hq1 : (q : Int) ≤ 20000 := by have := hsm.1; omega
      have Hf := hid hf.2.2.2.2.2
      generalize hxx : ns[n] = x at *
      obtain ⟨kind, text, kp, kcap, kids, place⟩ := x
      simp only at hsm hcap c0 c1 c2 c3 hq Hf
      rw [← hq] at c2
      have Hsm := hid hsm
      have Hcap := hid hcap
      have Hq := hid hq
      have Hxx := hid hxx
      clear hsm hcap hq hf hx hxx
      go_wp2
      go_loopw [7, 28] (fun v i w2 => ∃ (j : Nat) (us2 : List Bool) (g2 : Gro), j ≤ q ∧ i = .int .i64 j ∧ us2.length = L ∧
        w2 = grow ((grow (w.alloc (.cells (us2.map Value.bool).toArray 4)) g).alloc (.cells #[.int .i64 kind, .string text, .slice kp q kcap, .int .i64 place] 30)) g2 ∧
        Hid (Ints (w.heap.size + 1 + g.size + 1) w2 v ((kids.map (kindAt ns)).take j) ∧ kidsU n (kids.drop j) us2 = kidsU n kids us)) (fun _ i _ => q - (intOf i).toNat)
      case atStart => 
        obtain ⟨g0, h0⟩ := bout (Below.refl _ ((grow (w.alloc (.cells (us.map Value.bool).toArray 4)) g).alloc (.cells #[.int .i64 kind, .string text, .slice kp q kcap, .int .i64 place] 30)))
        exact ⟨0, us, g0, by omega, rfl, hul, h0, hid ⟨⟨by simp, .inl ⟨rfl, by simp⟩⟩, rfl⟩⟩
      case round =>
        obtain ⟨j, us2, g2, hj, rfl, hul2, rfl, hI⟩ := hrel
        by_cases hjq : j < q
        · rcases Hf.out with ix | ⟨bx, ox, hpx, hbx, hcx⟩
          · subst ix; have := Hq.out; simp at this; omega
          subst hpx
          have hjk : j < kids.length := by have := Hq.out; omega
          replace hcx := hcx j hjk
          have hkd := kidsU_drop n kids j hjk us2
          have Htk := hid (List.take_succ_eq_append_getElem hjk)
          generalize kids[j] = u at *
          have q0 : (0 : Int) ≤ (j : Int) := by omega
          have q1 : (j : Int) < (q : Int) := by omega
          have hbad : ¬ (0 ≤ u ∧ u < n ∧ us2.getD u.toNat false = false) → checkS ns = ((n : Int), 60) := fun hno => by
            rw [if_neg hno, hI.out.2] at hkd
            refine check_bad (v := us) (by rw [hR.out.2, HL.out]) ?_
            rw [Hdr.out]
            unfold scanF
            simp only [hkd]
          by_cases hu0 : u < 0
          · have Hb := hid (hbad (by omega))
            clear hbad hkd
            go_wp2
            go_ret2
            exact ⟨by rw [Hb.out]; rfl, by repeat (first | exact Below.refl _ _ | refine bG ?_ _ | refine bI ?_ _ _ | refine bA ?_ _)⟩
          by_cases hu1 : (n : Int) ≤ u
          · have Hb := hid (hbad (by omega))
            have hu2 : 0 ≤ u := by omega
            clear hbad hkd
            go_wp2
            go_ret2
            exact ⟨by rw [Hb.out]; rfl, by repeat (first | exact Below.refl _ _ | refine bG ?_ _ | refine bI ?_ _ _ | refine bA ?_ _)⟩
          obtain ⟨z, rfl⟩ : ∃ z : Nat, u = (z : Int) := ⟨u.toNat, by omega⟩
          rw [Int.toNat_natCast] at hbad hkd
          have hz1 : z < us2.length := by omega
          have hz2 : us2[z]? = some (us2.getD z false) := by rw [List.getD, List.getElem?_eq_getElem hz1]; rfl
          have hzx : z < ns.length := by omega
          obtain ⟨b3, o3, h3, _, hx3, hf3, d0, _⟩ := nd_at Ha.out hzx
          have hk3 := kindAt_of hx3
          cases h3
          rw [← hk3] at d0
          obtain ⟨kz, hkz⟩ : ∃ kz, kz = kindAt ns (z : Int) := ⟨_, rfl⟩
          rw [← hkz] at d0
          have Hkz := hid hkz
          clear hkz
          have z0 : (0 : Int) ≤ (z : Int) := by omega
          have z1 : (z : Int) < (n : Int) := by omega
          have z2 : (z : Int) < (L : Int) := by omega
          cases hub : us2.getD z false with
          | true =>
            have Hb := hid (hbad (by rw [hub]; simp))
            rw [hub] at hz2
            clear hbad hkd hub hf3 hx3 hk3
            go_wp2
            go_ret2
            exact ⟨by rw [Hb.out]; rfl, by repeat (first | exact Below.refl _ _ | refine bG ?_ _ | refine bI ?_ _ _ | refine bA ?_ _)⟩
          | false =>
            rw [hub] at hz2
            rw [if_pos ⟨z0, z1, hub⟩] at hkd
            have Hkd := hid hkd
            clear hbad hkd hub hf3 hx3 hk3
            go_wp2_with (at_builtin; go_loud (refine wpList_append_int rfl _ _ rfl (w.heap.size + 1 + g.size + 1) u7 ((kids.map (kindAt ns)).take j) kz (w.heap.size + 1 + g.size + 1 + g2.size) 1 rfl ?aown rfl ?acell ?alen ?abase ?arest))
            case aown =>
              have h0 := Ints_setCell hI.out.1 (i := z) (.bool true) (n := w.heap.size) (by omega)
              rw [used_set, List.setIfInBounds_toArray] at h0
              exact own_below h0 (bA (Below.refl _ _) _)
            case alen => have := Hsm.out.1; first | omega | (simp; omega)
            case abase => first | omega | (simp; omega)
            case arest =>
              intro v' w4 h1 h2 h3
              have hb4 := Below.grown (bA (below_grow ((grow (w.alloc (.cells ((us2.map Value.bool).set z (.bool true)).toArray 4)) g).alloc (.cells #[.int .i64 kind, .string text, .slice (some ⟨bx, ox, none⟩) q kcap, .int .i64 place] 30)) g2) _) h2 (by simp; omega) fun g hg => hI.out.1.2.elim (fun h => by rw [h.1] at hg; cases hg) fun ⟨g', _, _, e, hle, _⟩ => by rw [e] at hg; cases hg; simpa using hle
              obtain ⟨g3, rfl⟩ := bout hb4
              clear hb4 h2 h3
              have H1 := hid h1
              clear h1
              go_wp2
              go_roundw
              case rel => exact ⟨j + 1, us2.set z true, g3, by omega, by go_num, by simp [hul2], by rw [List.map_set], hid ⟨by rw [← List.map_take, Htk.out, List.map_append, List.map_cons, List.map_nil, ← Hkz.out, List.map_take]; exact H1.out, Hkd.out.symm.trans hI.out.2⟩⟩
              case measure => simp [intOf]; omega
        · obtain rfl : j = q := by omega
          have hks : kidsU n kids us = some us2 := by
            rw [← hI.out.2, Hq.out, List.drop_length]; rfl
          have hown := hI.out.1
          rw [List.take_of_length_le (by rw [List.length_map]; have := Hq.out; omega)] at hown
          have Hown := hid hown
          have Hks := hid hks
          clear hI hks hown
          have hbad : okB ns ⟨kind, text, kp, kcap, kids, place⟩ = false → checkS ns = ((n : Int), 60) := fun hno => by
            refine check_bad (v := us2) (by rw [hR.out.2, HL.out]) ?_
            rw [Hdr.out]
            exact scan_bad Hks.out hno
          obtain ⟨pk, ck, hvv, hat⟩ := Hown.out.out
          rw [List.length_map, ← Hq.out] at hvv
          subst hvv
          clear Hown
          have Hat := hid hat
          clear hat
          have hwb : Below w.heap.size w (grow ((grow (w.alloc (.cells (us2.map Value.bool).toArray 4)) g).alloc (.cells #[.int .i64 kind, .string text, .slice kp j kcap, .int .i64 place] 30)) g2) := by
            repeat (first | exact Below.refl _ _ | refine bG ?_ _ | refine bI ?_ _ _ | refine bA ?_ _)
          have Hwb := hid hwb
          clear hwb
          by_cases hpl : place < 0
          · have Hb := hid (hbad (by unfold okB; simp only [decide_eq_false (show ¬ (0 : Int) ≤ place by omega), Bool.false_and]))
            clear hbad
            go_wp2
            go_ret2
            exact ⟨by rw [Hb.out]; rfl, by repeat (first | exact Below.refl _ _ | refine bG ?_ _ | refine bI ?_ _ _ | refine bA ?_ _ | refine bD ?_ | refine bN ?_ _)⟩
          have hpl2 : ¬ place < 0 := hpl
          by_cases hki : 1 ≤ kind ∧ kind ≤ 36
          · obtain ⟨k, rfl⟩ : ∃ k : Nat, kind = (k : Int) := ⟨kind.toNat, by omega⟩
            have hk1 : 1 ≤ k := by omega
            have hk36 : k ≤ 36 := by omega
            have hkm := kindsL_map hR.out.1 (by omega) (kidsU_in n kids us us2 Hks.out)
            obtain ⟨kb, hkb⟩ : ∃ kb, kb = fitsF (formOf k) (kindsL ns kids) := ⟨_, rfl⟩
            have Hkid : Hid (∀ W, Below (grow ((grow (w.alloc (.cells (us2.map Value.bool).toArray 4)) g).alloc (.cells #[.int .i64 k, .string text, .slice kp j kcap, .int .i64 place] 30)) g2).heap.size (grow ((grow (w.alloc (.cells (us2.map Value.bool).toArray 4)) g).alloc (.cells #[.int .i64 k, .string text, .slice kp j kcap, .int .i64 place] 30)) g2) W →
                Calls Tryz.prog 42 #[.int .i64 (k : Int), .slice pk j ck] W fun e w' => e = .returned (.bool kb) ∧ Below W.heap.size W w') := hid fun W hW => by
              rw [hkb]
              exact kids_any W k hk1 hk36 pk j ck (by omega) _ (by simp [kindsL, Hq.out]) (by rw [hkm.1]; exact IntsAt.later Hat.out hW) hkm.2
            have Hkb := hid hkb
            have Hkm := hid hkm.2
            obtain ⟨tb, htb⟩ : ∃ tb, tb = textS k text.data.toList j := ⟨_, rfl⟩
            have Htext : Hid (∀ W, Below w.heap.size w W → Calls Tryz.prog 43 #[.agg #[.int .i64 (k : Int), .string text, .slice kp j kcap, .int .i64 place]] W fun e w' => e = .returned (.bool tb) ∧ Below W.heap.size W w') := hid fun W hW => by
              rw [htb]
              exact text_any k hk1 hk36 text (by have := Hsm.out.2; omega) kp j kcap place W (Lib0.later Hl.out hW)
            have Htb := hid htb
            have hok : okB ns ⟨k, text, kp, kcap, kids, place⟩ = (kb && tb && extraS ns ⟨k, text, kp, kcap, kids, place⟩) := by
              unfold okB
              simp only [decide_eq_true (show (0 : Int) ≤ place by omega), decide_eq_true (show (1 : Int) ≤ (k : Int) ∧ (k : Int) ≤ 36 by omega), Bool.true_and, Int.toNat_natCast, hkb, htb, Hq.out]
            clear hkm hkb htb
            cases kb with
            | false =>
              have Hb := hid (hbad (by rw [hok]; rfl))
              clear hbad hok
              go_wp2_with (go_at_call 42; ((with_reducible refine (Hkid.out _ (by repeat (first | exact Below.refl _ _ | refine bG ?_ _ | refine bI ?_ _ _ | refine bA ?_ _ | refine bD ?_ | refine bN ?_ _))).mono ?_)); rintro e w' ⟨rfl, hb⟩; obtain ⟨g4, rfl⟩ := bout hb; clear hb)
              go_ret2
              exact ⟨by rw [Hb.out]; rfl, by repeat (first | exact Below.refl _ _ | refine bG ?_ _ | refine bI ?_ _ _ | refine bA ?_ _ | refine bD ?_ | refine bN ?_ _)⟩
            | true =>
              cases tb with
              | false =>
                have Hb := hid (hbad (by rw [hok]; rfl))
                clear hbad hok
                go_wp2_with (first
                  | (go_at_call 42; ((with_reducible refine (Hkid.out _ (by repeat (first | exact Below.refl _ _ | refine bG ?_ _ | refine bI ?_ _ _ | refine bA ?_ _ | refine bD ?_ | refine bN ?_ _))).mono ?_)); rintro e w' ⟨rfl, hb⟩; obtain ⟨g4, rfl⟩ := bout hb; clear hb)
                  | (go_at_call 43; ((with_reducible refine (Htext.out _ (by repeat (first | exact Below.refl _ _ | refine bG ?_ _ | refine bI ?_ _ _ | refine bA ?_ _ | refine bD ?_ | refine bN ?_ _))).mono ?_)); rintro e w' ⟨rfl, hb⟩; obtain ⟨g5, rfl⟩ := bout hb; clear hb))
                go_ret2
                exact ⟨by rw [Hb.out]; rfl, by repeat (first | exact Below.refl _ _ | refine bG ?_ _ | refine bI ?_ _ _ | refine bA ?_ _ | refine bD ?_ | refine bN ?_ _)⟩
              | true =>
                have hext : ∀ W, Below w.heap.size w W → Calls Tryz.prog 44 #[.slice (some ⟨b, o, none⟩) L c, .int .i64 (n : Int)] W fun e w' => e = .returned (.bool (extraS ns ⟨k, text, kp, kcap, kids, place⟩)) ∧ Below W.heap.size W w' := fun W hW => by
                  have h := extra_any W (some ⟨b, o, none⟩) c ns Hs.out Hc.out (NodesAt.later Ha.out hW) n hnx hR.out.1
                  rw [Hxx.out, ← HL.out] at h
                  exact h ⟨by simp only; omega, by simp only; omega, kidsU_in n kids us us2 Hks.out, by rw [Int.toNat_natCast]; exact Hkb.out.symm, by rw [Int.toNat_natCast]; simp only; rw [← Hq.out]; exact Htb.out.symm⟩
                obtain ⟨eb, heb⟩ : ∃ eb, eb = extraS ns ⟨k, text, kp, kcap, kids, place⟩ := ⟨_, rfl⟩
                rw [← heb] at hext hok
                have Hext := hid hext
                have Heb := hid heb
                clear hext heb
                cases eb with
                | false =>
                  have Hb := hid (hbad (by rw [hok]; rfl))
                  clear hbad hok
                  go_wp2_with (first
                    | (go_at_call 42; ((with_reducible refine (Hkid.out _ (by repeat (first | exact Below.refl _ _ | refine bG ?_ _ | refine bI ?_ _ _ | refine bA ?_ _ | refine bD ?_ | refine bN ?_ _))).mono ?_)); rintro e w' ⟨rfl, hb⟩; obtain ⟨g4, rfl⟩ := bout hb; clear hb)
                    | (go_at_call 43; ((with_reducible refine (Htext.out _ (by repeat (first | exact Below.refl _ _ | refine bG ?_ _ | refine bI ?_ _ _ | refine bA ?_ _ | refine bD ?_ | refine bN ?_ _))).mono ?_)); rintro e w' ⟨rfl, hb⟩; obtain ⟨g5, rfl⟩ := bout hb; clear hb)
                    | (go_at_call 44; ((with_reducible refine (Hext.out _ (by repeat (first | exact Below.refl _ _ | refine bG ?_ _ | refine bI ?_ _ _ | refine bA ?_ _ | refine bD ?_ | refine bN ?_ _))).mono ?_)); rintro e w' ⟨rfl, hb⟩; obtain ⟨g6, rfl⟩ := bout hb; clear hb))
                  go_ret2
                  exact ⟨by rw [Hb.out]; rfl, by repeat (first | exact Below.refl _ _ | refine bG ?_ _ | refine bI ?_ _ _ | refine bA ?_ _ | refine bD ?_ | refine bN ?_ _)⟩
                | true =>
                  have Hok := hid hok
                  clear hbad hok
                  go_wp2_with (first
                    | (go_at_call 42; ((with_reducible refine (Hkid.out _ (by repeat (first | exact Below.refl _ _ | refine bG ?_ _ | refine bI ?_ _ _ | refine bA ?_ _ | refine bD ?_ | refine bN ?_ _))).mono ?_)); rintro e w' ⟨rfl, hb⟩; obtain ⟨g4, rfl⟩ := bout hb; clear hb)
                    | (go_at_call 43; ((with_reducible refine (Htext.out _ (by repeat (first | exact Below.refl _ _ | refine bG ?_ _ | refine bI ?_ _ _ | refine bA ?_ _ | refine bD ?_ | refine bN ?_ _))).mono ?_)); rintro e w' ⟨rfl, hb⟩; obtain ⟨g5, rfl⟩ := bout hb; clear hb)
                    | (go_at_call 44; ((with_reducible refine (Hext.out _ (by repeat (first | exact Below.refl _ _ | refine bG ?_ _ | refine bI ?_ _ _ | refine bA ?_ _ | refine bD ?_ | refine bN ?_ _))).mono ?_)); rintro e w' ⟨rfl, hb⟩; obtain ⟨g6, rfl⟩ := bout hb; clear hb))
                  have hb7 : Below (w.alloc (.cells (us2.map Value.bool).toArray 4)).heap.size (w.alloc (.cells (us2.map Value.bool).toArray 4)) (grow ((grow (w.alloc (.cells (us2.map Value.bool).toArray 4)) g).alloc (.cells #[.int .i64 k, .string text, .slice kp j kcap, .int .i64 place] 30)) (((g2.app g4).app g5).app g6)) := by
                    repeat (first | exact Below.refl _ _ | refine bG ?_ _ | refine bI ?_ _ _ | refine bA ?_ _)
                  obtain ⟨g7, h7⟩ := bout hb7
                  refine ⟨⟨n + 1, us2, g7, by omega, by go_num, h7, hul2, hid ⟨fun i x hi hx2 => ?_, ?_⟩⟩, by simp [intOf]; omega⟩
                  · by_cases hin : i < n
                    · exact hR.out.1 i x hin hx2
                    · obtain rfl : i = n := by omega
                      rw [Hx.out] at hx2
                      cases hx2
                      exact ⟨by simp only; omega, by simp only; omega, by simp only; omega, kidsU_in i kids us us2 Hks.out, by rw [Int.toNat_natCast]; exact Hkb.out.symm, by rw [Int.toNat_natCast]; simp only; rw [← Hq.out]; exact Htb.out.symm, Heb.out.symm⟩
                  · rw [← hR.out.2, Hdr.out]
                    exact (scan_ok Hks.out (by rw [Hok.out]; rfl)).symm
          · have Hb := hid (hbad (by unfold okB; simp only [decide_eq_false (show ¬ ((1 : Int) ≤ kind ∧ kind ≤ 36) from hki), Bool.and_false, Bool.false_and]))
            have hkn := hid (fun W => kids_none W kind (by omega) pk j ck (by omega))
            clear hbad
            go_wp2_with (go_at_call 42; ((with_reducible refine (hkn.out _).mono ?_)); rintro e w' ⟨rfl, hb⟩; obtain ⟨g4, rfl⟩ := bout hb; clear hb)
            go_ret2
            exact ⟨by rw [Hb.out]; rfl, by repeat (first | exact Below.refl _ _ | refine bG ?_ _ | refine bI ?_ _ _ | refine bA ?_ _ | refine bD ?_ | refine bN ?_ _)⟩
    · obtain rfl : n = L := by omega
      have hck : checkS ns = if n = 0 then ((0 : Int), (60 : Int)) else if rootOK ns us then (if 200 < deepOf ns then (0, 61) else (0, 0)) else ((n : Int) - 1, 60) := by
        have h := hR.out.2
        rw [show ns.drop n = [] by rw [HL.out, List.drop_length]] at h
        unfold checkS
        rw [← HL.out, ← h]
        rfl
      by_cases hn0 : n = 0
      · rw [if_pos hn0] at hck
        have Hb := hid hck
        have hn1 : (n : Int) - 1 < 0 := by omega
        clear hck
        go_wp2
        go_ret2
        exact ⟨by rw [Hb.out]; rfl, by repeat (first | exact Below.refl _ _ | refine bG ?_ _ | refine bI ?_ _ _ | refine bA ?_ _ | refine bD ?_ | refine bN ?_ _)⟩
      rw [if_neg hn0] at hck
      have Hck := hid hck
      have hn1 : ¬ ((n : Int) - 1 < 0) := by omega
      clear hck
      go_wp2
      go_loop [88] (fun i => ∃ k : Nat, k ≤ n ∧ i = .int .i64 k ∧ Hid (∀ m < k, (decide ((kindAt ns m = 1) ↔ (m + 1 = ns.length)) && decide (us.getD m false = decide (m + 1 ≠ ns.length))) = true)) (fun i => n - (intOf i).toNat)
      case atStart => exact ⟨0, by omega, rfl, hid fun m h => absurd h (by omega)⟩
      case round =>
        obtain ⟨k, hk, rfl, hK⟩ := hrel
        by_cases hkn : k < n
        · have hkl : k < ns.length := by have := HL.out; omega
          obtain ⟨b, o, rfl, hb, hx, hf, c0, c1, c2, c3⟩ := nd_at Ha.out hkl
          have hka := kindAt_of hx
          rw [← hka] at c0
          have hul3 : k < us.length := by omega
          have hu1 : us[k] = us.getD k false := by rw [List.getD, List.getElem?_eq_getElem hul3]; rfl
          have k0 : (0 : Int) ≤ (k : Int) := by omega
          have k1 : (k : Int) < (n : Int) := by omega
          obtain ⟨kd, hkd⟩ : ∃ kd, kd = kindAt ns (k : Int) := ⟨_, rfl⟩
          obtain ⟨ub, hub⟩ : ∃ ub, ub = us.getD k false := ⟨_, rfl⟩
          rw [← hkd] at c0
          rw [← hub] at hu1
          have Hkd := hid hkd
          have Hub := hid hub
          clear hka hkd hub hx hf c1 c2 c3
          have hno : ¬ ((decide ((kd = 1) ↔ (k + 1 = ns.length)) && decide (ub = decide (k + 1 ≠ ns.length))) = true) → checkS ns = ((n : Int) - 1, 60) := fun h => by
            rw [Hck.out, if_neg]
            intro hr
            unfold rootOK at hr
            rw [List.all_eq_true] at hr
            have := hr k (List.mem_range.2 hkl)
            rw [← Hkd.out, ← Hub.out] at this
            exact h this
          have hyes : (decide ((kd = 1) ↔ (k + 1 = ns.length)) && decide (ub = decide (k + 1 ≠ ns.length))) = true → ∀ m < k + 1, (decide ((kindAt ns m = 1) ↔ (m + 1 = ns.length)) && decide (us.getD m false = decide (m + 1 ≠ ns.length))) = true := fun h m hm => by
            by_cases hmk : m < k
            · exact hK.out m hmk
            · obtain rfl : m = k := by omega
              rw [← Hkd.out, ← Hub.out]; exact h
          by_cases hd : kd = 1
          · subst hd
            by_cases hlk : (n : Int) - 1 = (k : Int)
            · have Hlk := hid hlk
              have hkk : k + 1 = ns.length := by have := HL.out; omega
              cases ub with
              | true =>
                have Hb := hid (hno (by simp [hkk]))
                clear hno hyes hkk
                go_wp2
                go_ret2
                exact ⟨by rw [Hb.out]; show _ = Ending.returned (.tuple #[.int .i64 ((n : Int) - 1), .int .i64 60]); rw [Hlk.out]; rfl, by repeat (first | exact Below.refl _ _ | refine bG ?_ _ | refine bI ?_ _ _ | refine bA ?_ _ | refine bD ?_ | refine bN ?_ _)⟩
              | false =>
                have Hy := hid (hyes (by simp [hkk]))
                clear hno hyes hkk
                go_wp2
                go_round
                case rel => exact ⟨k + 1, by omega, by go_num, Hy⟩
                case measure => simp [intOf]; omega
            · have hkk : ¬ k + 1 = ns.length := by have := HL.out; omega
              have hlk2 := ne_beq (fun e => hlk e.symm : (k : Int) ≠ (n : Int) - 1)
              cases ub with
              | true =>
                have Hb := hid (hno (by simp [hkk]))
                clear hno hyes hkk
                go_wp2
                go_ret2
                exact ⟨by rw [Hb.out]; rfl, by repeat (first | exact Below.refl _ _ | refine bG ?_ _ | refine bI ?_ _ _ | refine bA ?_ _ | refine bD ?_ | refine bN ?_ _)⟩
              | false =>
                have Hb := hid (hno (by simp [hkk]))
                clear hno hyes hkk
                go_wp2
                go_ret2
                exact ⟨by rw [Hb.out]; rfl, by repeat (first | exact Below.refl _ _ | refine bG ?_ _ | refine bI ?_ _ _ | refine bA ?_ _ | refine bD ?_ | refine bN ?_ _)⟩
          · have hd2 := ne_beq hd
            by_cases hlk : (n : Int) - 1 = (k : Int)
            · have Hlk := hid hlk
              have hkk : k + 1 = ns.length := by have := HL.out; omega
              cases ub with
              | true =>
                have Hb := hid (hno (by simp [hkk, hd]))
                clear hno hyes hkk
                go_wp2
                go_ret2
                exact ⟨by rw [Hb.out]; show _ = Ending.returned (.tuple #[.int .i64 ((n : Int) - 1), .int .i64 60]); rw [Hlk.out]; rfl, by repeat (first | exact Below.refl _ _ | refine bG ?_ _ | refine bI ?_ _ _ | refine bA ?_ _ | refine bD ?_ | refine bN ?_ _)⟩
              | false =>
                have Hb := hid (hno (by simp [hkk, hd]))
                clear hno hyes hkk
                go_wp2
                go_ret2
                exact ⟨by rw [Hb.out]; show _ = Ending.returned (.tuple #[.int .i64 ((n : Int) - 1), .int .i64 60]); rw [Hlk.out]; rfl, by repeat (first | exact Below.refl _ _ | refine bG ?_ _ | refine bI ?_ _ _ | refine bA ?_ _ | refine bD ?_ | refine bN ?_ _)⟩
            · have hkk : ¬ k + 1 = ns.length := by have := HL.out; omega
              have hlk2 := ne_beq (fun e => hlk e.symm : (k : Int) ≠ (n : Int) - 1)
              cases ub with
              | true =>
                have Hy := hid (hyes (by simp [hkk, hd]))
                clear hno hyes hkk
                go_wp2
                go_round
                case rel => exact ⟨k + 1, by omega, by go_num, Hy⟩
                case measure => simp [intOf]; omega
              | false =>
                have Hb := hid (hno (by simp [hkk, hd]))
                clear hno hyes hkk
                go_wp2
                go_ret2
                exact ⟨by rw [Hb.out]; rfl, by repeat (first | exact Below.refl _ _ | refine bG ?_ _ | refine bI ?_ _ _ | refine bA ?_ _ | refine bD ?_ | refine bN ?_ _)⟩
        · obtain rfl : k = n := by omega
          have hroot : rootOK ns us = true := by
            unfold rootOK
            rw [List.all_eq_true]
            intro m hm
            exact hK.out m (by rw [HL.out]; exact List.mem_range.1 hm)
          have hck := Hck.out
          rw [if_pos hroot] at hck
          have Hdeep : Hid (∀ W, Below w.heap.size w W → Calls Tryz.prog 45 #[.slice p k c] W fun e w' => e = .returned (.int .i64 (deepOf ns)) ∧ Below W.heap.size W w') := hid fun W hW => by
            have h := rdeep_any p c ns W (NodesAt.later Ha.out hW) Hs.out
            rw [← HL.out] at h
            exact h
          generalize deepOf ns = dp at *
          by_cases hdp : 200 < dp
          · rw [if_pos hdp] at hck
            have Hb := hid hck
            clear hck hroot
            go_wp2_with (go_at_call 45; ((with_reducible refine (Hdeep.out _ (by repeat (first | exact Below.refl _ _ | refine bG ?_ _ | refine bI ?_ _ _ | refine bA ?_ _ | refine bD ?_ | refine bN ?_ _))).mono ?_)); rintro e w' ⟨rfl, hb⟩; obtain ⟨g4, rfl⟩ := bout hb; clear hb)
            go_ret2
            exact ⟨by rw [Hb.out]; rfl, by repeat (first | exact Below.refl _ _ | refine bG ?_ _ | refine bI ?_ _ _ | refine bA ?_ _ | refine bD ?_ | refine bN ?_ _)⟩
          · rw [if_neg hdp] at hck
            have Hb := hid hck
            clear hck hroot
            go_wp2_with (go_at_call 45; ((with_reducible refine (Hdeep.out _ (by repeat (first | exact Below.refl _ _ | refine bG ?_ _ | refine bI ?_ _ _ | refine bA ?_ _ | refine bD ?_ | refine bN ?_ _))).mono ?_)); rintro e w' ⟨rfl, hb⟩; obtain ⟨g4, rfl⟩ := bout hb; clear hb)
            go_ret2
            exact ⟨by rw [Hb.out]; rfl, by repeat (first | exact Below.refl _ _ | refine bG ?_ _ | refine bI ?_ _ _ | refine bA ?_ _ | refine bD ?_ | refine bN ?_ _)⟩
end Go.Proofs.YtbgjanmheagilaaGreatDoor

/- What erase asks of nodes; whether a kind is a type's. Conditions: none. -/
namespace Go.Proofs.YtbgjanmheagilaaGreatDoor
open Go Go.RowKit Go.Nodes
set_option linter.unusedVariables false
set_option linter.unusedSimpArgs false
def typedK (k : Int) : Bool := decide (31 ≤ k) && decide (k ≤ 36)
/-- What Check takes, as far as erase looks. -/
def Sound (ns : List Nd) : Prop := ∀ (i : Nat) (x : Nd), ns[i]? = some x → (∀ k ∈ x.kids, 0 ≤ k ∧ k < i) ∧ 1 ≤ x.kind ∧ x.kind ≤ 36 ∧ (x.kind = 36 → 0 < x.kids.length)
theorem has_kid36 {ns : List Nd} {x : Nd} (hf : fitsF (formOf x.kind.toNat) (kindsL ns x.kids) = true) (h : x.kind = 36) : 0 < x.kids.length := by
  have hl : (kindsL ns x.kids).length = x.kids.length := by simp [kindsL]
  rw [← hl]
  rw [h] at hf
  have := fits_len hf (by decide)
  exact Nat.lt_of_lt_of_le (by decide) this
theorem scan_sound (ns : List Nd) : ∀ (l : List Nd) (n : Nat) (u v : List Bool), ns.drop n = l → scanF ns l n u = (none, v) → ∀ (i : Nat) (x : Nd), n ≤ i → ns[i]? = some x → (∀ k ∈ x.kids, 0 ≤ k ∧ k < i) ∧ okB ns x = true
  | [], n, u, v, hd, h, i, x, hi, hx => by
    have h1 : ns.length ≤ n := by have := congrArg List.length hd; simp at this; omega
    have h2 := (List.getElem?_eq_some_iff.1 hx).1
    omega
  | y :: l, n, u, v, hd, h, i, x, hi, hx => by
    unfold scanF at h
    have hn : n < ns.length := by
      have := congrArg List.length hd
      simp at this; omega
    have hy : ns[n]? = some y := by
      have := List.drop_eq_getElem_cons hn
      rw [hd] at this
      rw [List.getElem?_eq_getElem hn]
      exact congrArg some (List.cons.inj this).1.symm
    split at h
    · cases h
    · rename_i u2 hku
      split at h
      · rename_i hok
        by_cases e : i = n
        · subst e
          rw [hy] at hx
          cases hx
          exact ⟨kidsU_in i _ _ _ hku, hok⟩
        · refine scan_sound ns l (n + 1) u2 v ?_ h i x (by omega) hx
          rw [← List.drop_drop, hd]; rfl
      · cases h
theorem sound_of {ns : List Nd} (h : (checkS ns).2 = 0) : Sound ns := by
  unfold checkS at h
  split at h
  · simp at h
  · rename_i v hs
    intro i x hx
    obtain ⟨h1, h2⟩ := scan_sound ns ns 0 _ v rfl hs i x (Nat.zero_le _) hx
    unfold okB at h2
    simp only [Bool.and_eq_true, decide_eq_true_eq] at h2
    obtain ⟨⟨⟨_, ⟨h3, h4⟩, h5⟩, _⟩, _⟩ := h2
    exact ⟨h1, h3, h4, has_kid36 h5⟩
set_option maxHeartbeats 1000000 in
theorem typed_any (k : Int) (s : ByteArray) (kp : Option Addr) (n c : Nat) (at1 : Int) (w : World) :
    Calls Tryz.prog 30 #[.agg #[.int .i64 k, .string s, .slice kp n c, .int .i64 at1]] w fun e w' => e = .returned (.bool (typedK k)) ∧ Below w.heap.size w w' := by
  by_cases h1 : (31 : Int) ≤ k
  · by_cases h2 : k ≤ 36
    · go_enter Tryz.func30, Tryz.ntmps30
      go_wp2
      go_ret
      exact ⟨by simp [typedK, h1, h2], by repeat (first | exact Below.refl _ _ | refine bG ?_ _ | refine bI ?_ _ _ | refine bA ?_ _)⟩
    · have h2' : (36 : Int) < k := by omega
      go_enter Tryz.func30, Tryz.ntmps30
      go_wp2
      go_ret
      exact ⟨by simp [typedK]; omega, by repeat (first | exact Below.refl _ _ | refine bG ?_ _ | refine bI ?_ _ _ | refine bA ?_ _)⟩
  · have h1' : k < 31 := by omega
    go_enter Tryz.func30, Tryz.ntmps30
    go_wp2
    go_ret
    exact ⟨by simp [typedK]; omega, by repeat (first | exact Below.refl _ _ | refine bG ?_ _ | refine bI ?_ _ _ | refine bA ?_ _)⟩
end Go.Proofs.YtbgjanmheagilaaGreatDoor
