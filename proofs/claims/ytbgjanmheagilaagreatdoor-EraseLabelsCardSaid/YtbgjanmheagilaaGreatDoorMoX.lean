/- Whether texts, as far as something cuts them, are all unlike: tree.unlike, walked. Conditions: the kids stand. -/
import Derived.Maps.OwnSet
import Derived.Test.YtbgjanmheagilaaGreatDoorApX
import Derived.Test.YtbgjanmheagilaaGreatDoorNrX
set_option linter.unusedVariables false
set_option linter.unusedSimpArgs false
namespace Go.Proofs.YtbgjanmheagilaaGreatDoor
open Go Go.RowKit Go.Nodes Go.WideMaps Go.Maps Go.ChangeShapes
set_option linter.unusedVariables false
set_option linter.unusedSimpArgs false
/-- What a map that counts texts says of them. -/
structure SetOf (D : DataW Unit) (l : List (List UInt8)) : Prop where
  tidy : Tidy D
  size : Maps.size D ≤ l.length
  nodup : Maps.size D = l.length ↔ l.Nodup
  has : ∀ x, Maps.has D (.string x) = true ↔ x ∈ l
theorem str_key (x : List UInt8) : WideAt.IsKeyLit (.string x) := by unfold WideAt.IsKeyLit; trivial
theorem SetOf.nil : SetOf (.map []) [] := ⟨tidy_empty, by simp [size_eq], by simp [size_eq], by simp [has_eq]⟩
theorem SetOf.snoc {D : DataW Unit} {l : List (List UInt8)} (h : SetOf D l) (x : List UInt8) (d : DataW Unit) : SetOf (D.put (.string x) d) (l ++ [x]) := by
  have hs := size_put (k := .string x) h.tidy d
  have h1 := h.size
  have h2 := h.nodup
  have hx := h.has x
  refine ⟨h.tidy.put (str_key x) d, ?_, ?_, fun y => ?_⟩
  · rw [hs]; split <;> simp <;> omega
  · rw [hs, List.nodup_append]
    simp only [List.length_append, List.length_cons, List.length_nil]
    by_cases hm : x ∈ l
    · rw [if_pos (hx.2 hm)]
      constructor
      · intro; omega
      · rintro ⟨_, _, h3⟩; exact absurd rfl (h3 x hm x (by simp))
    · rw [if_neg (fun h => hm (hx.1 h))]
      constructor
      · intro h3; exact ⟨h2.1 (by omega), by simp, fun a ha b hb e => by simp at hb; subst hb e; exact hm ha⟩
      · rintro ⟨h3, _, _⟩; have := h2.2 h3; omega
  · by_cases e : y = x
    · subst e; rw [has_put_same h.tidy.isMap (str_key y)]; simp
    · rw [has_put_other (fun h => e (by cases h; rfl)), h.has y]; simp [e]
/-- Where the kids' texts lie. -/
def TextsAt (w : World) (p q : Option Addr) (n : Nat) (ts : List ByteArray) : Prop := ∀ (i : Nat) (t : ByteArray), ts[i]? = some t →
  ∃ b o bq oq kk : Nat, p = some ⟨b, o, none⟩ ∧ q = some ⟨bq, oq, none⟩ ∧ b < w.heap.size ∧ bq < w.heap.size ∧ kk < n ∧ w.cell? ⟨bq, oq + i, none⟩ = some (.int .i64 kk) ∧ w.cell? ⟨b, o + kk * 4 + 1, none⟩ = some (.string t)
set_option maxRecDepth 10000 in
theorem cut_all (s : ByteArray) (hs : s.size ≤ 20000) (w : World) : Calls Tryz.prog 132 #[.string s] w fun e w' => e = .returned (.string s) ∧ w = w' := by
  go_enter Tryz.func132, Tryz.ntmps132
  go_wp2
  go_ret
  exact ⟨rfl, rfl⟩
set_option maxRecDepth 100000 in
set_option maxHeartbeats 4000000 in
theorem unlike_all (w : World) (p q : Option Addr) (n c m d : Nat) (hn : (n : Int) ≤ 5000) (hm : (m : Int) ≤ 20000) (ts : List ByteArray) (hts : ts.length = m) (hk : TextsAt w p q n ts) (hc : ∀ s ∈ ts, s.size ≤ 20000) :
    Calls Tryz.prog 131 #[.slice p n c, .slice q m d, .func (.func 132) #[] #[]] w fun e w' => e = .returned (.bool (decide ((ts.map (fun s : ByteArray => s.data.toList)).Nodup))) ∧ Below w.heap.size w w' := by
  have hmm := @run_makeMap Tryz.prog
  have Hk := hid hk
  have Hts := hid hts
  have Hc := hid hc
  clear hk hts hc
  go_enter Tryz.func131, Tryz.ntmps131
  go_wp2
  go_loopw [13] (fun i wr => ∃ (k : Nat) (D : DataW Unit), k ≤ m ∧ i = .int .i64 k ∧ wr.ownsMap Tryz.prog 9 (plainElem Tryz.prog 3) w.heap.size k D ∧ Below w.heap.size w wr ∧ Hid (SetOf D ((ts.map (fun s : ByteArray => s.data.toList)).take k)))
    (fun i _ => m - (intOf i).toNat)
  case atStart => exact ⟨0, _, Nat.zero_le _, rfl, World.ownsMap_made _ _ _ _, by repeat (first | exact Below.refl _ _ | refine bG ?_ _ | refine bI ?_ _ _ | refine bA ?_ _), hid SetOf.nil⟩
  case round =>
    obtain ⟨k, D, hk, rfl, hown, hnx, hS⟩ := hrel
    by_cases hlt : k < m
    · have hkl : k < ts.length := by have := Hts.out; omega
      have hg : ts[k]? = some ts[k] := List.getElem?_eq_getElem hkl
      have hcs := Hc.out ts[k] (List.getElem_mem hkl)
      obtain ⟨b, o, bq, oq, kk, rfl, rfl, hb, hbq, hkk, h1, h2⟩ := Hk.out k _ hg
      have e1 : wr.cell? ⟨bq, oq + k, none⟩ = some (.int .i64 kk) := (hnx.cell (p := ⟨bq, oq + k, none⟩) hbq).trans h1
      have e2 : wr.cell? ⟨b, o + kk * 4 + 1, none⟩ = some (.string ts[k]) := (hnx.cell (p := ⟨b, o + kk * 4 + 1, none⟩) hb).trans h2
      have hst : (ts.map (fun s : ByteArray => s.data.toList)).take (k + 1) = (ts.map (fun s : ByteArray => s.data.toList)).take k ++ [(fun s : ByteArray => s.data.toList) ts[k]] := by
        rw [List.take_succ_eq_append_getElem (by simpa using hkl)]; simp
      clear h1 h2 hg
      generalize ts[k] = s at *
      obtain ⟨t, ht⟩ : ∃ t : ByteArray, t = s := ⟨_, rfl⟩
      have Hcut : Hid (∀ w, Calls Tryz.prog 132 #[.string s] w fun e w' => e = .returned (.string t) ∧ w = w') := hid (by rw [ht]; exact cut_all s hcs)
      have htl : (fun s : ByteArray => s.data.toList) s = t.data.toList := by subst ht; rfl
      rw [htl] at hst
      have hkey : keyOf Tryz.prog 9 (.string t) = some (.string t.data.toList) := keyOf_string_mk Tryz.underlying9 (by rw [ht]; have := hcs; unfold maxLen; omega)
      have Hst := hid hst
      have k0 : (0 : Int) ≤ (k : Int) := by omega
      have k1 : (k : Int) < (m : Int) := by omega
      have kk0 : (0 : Int) ≤ (kk : Int) := by omega
      have kk1 : (kk : Int) < (n : Int) := by omega
      clear hst htl ht hcs
      go_wp2_with (first
        | (go_at_call 132; ((with_reducible refine (Hcut.out _).mono ?_)); rintro e w' ⟨rfl, rfl⟩)
        | (at_lookup; refine wpList_lookup_own_int _ rfl _ _ 147 rfl 9 3 .i64 mlaw Tryz.underlying147 Tryz.underlying3 (zero3 _) w.heap.size k _ rfl hown _ _ rfl hkey ?_; intro c hat hwc)
        | (at_mapUpdate; refine wpList_mapUpdate_own _ rfl _ _ _ 147 rfl 9 3 mlaw Tryz.underlying147 _ w.heap.size k _ rfl hown (by unfold maxLen; omega) _ _ _ rfl rfl hkey _ [] (plainElem_int Tryz.underlying3 (wrap64_wf _)) ?_))
      intro w1 hown1 hgrow1
      have R2 := hnx.grown hgrow1 hnx.size (fun j hj => by cases hj; exact Nat.le_refl _)
      have R3 := hid (hS.out.snoc t.data.toList (.lit (.int .i64 (wrap64 (c + 1)))))
      rw [← Hst.out] at R3
      clear hgrow1 hown e1 e2 hnx hat hwc
      go_wp2
      go_roundw
      case rel => exact ⟨k + 1, _, by omega, by go_num, hown1, R2, R3⟩
      case measure => simp [intOf]; omega
    · obtain rfl : k = m := by omega
      have hS2 := hS.out
      rw [List.take_of_length_le (by rw [List.length_map, Hts.out]; exact Nat.le_refl _)] at hS2
      have hres : Hid ((((Maps.size D : Nat) : Int) == ((k : Nat) : Int)) = decide ((ts.map (fun s : ByteArray => s.data.toList)).Nodup)) := hid (by
        have h3 := hS2.nodup
        rw [List.length_map, Hts.out] at h3
        by_cases hd : (ts.map (fun s : ByteArray => s.data.toList)).Nodup
        · rw [decide_eq_true hd, h3.2 hd]; simp
        · rw [decide_eq_false hd]
          cases e : (((Maps.size D : Nat) : Int) == ((k : Nat) : Int)) with
          | false => rfl
          | true => exact absurd (h3.1 (by have := eq_of_beq e; omega)) hd)
      clear hS2 hS
      go_wp2_with (at_len; refine wpList_len_own _ rfl _ 147 rfl 9 3 Tryz.underlying147 _ w.heap.size k D rfl hown ?_)
      go_ret
      exact ⟨by rw [hres.out]; rfl, hnx⟩
set_option maxRecDepth 10000 in
theorem cut_one (s : ByteArray) (hs : 0 < s.size ∧ s.size ≤ 20000) (w : World) : Calls Tryz.prog 133 #[.string s] w fun e w' => e = .returned (.string (s.extract 0 1)) ∧ w = w' := by
  obtain ⟨h0, h1⟩ := hs
  go_enter Tryz.func133, Tryz.ntmps133
  go_wp2
  go_ret
  exact ⟨rfl, rfl⟩
set_option maxRecDepth 100000 in
set_option maxHeartbeats 4000000 in
theorem unlike_one (w : World) (p q : Option Addr) (n c m d : Nat) (hn : (n : Int) ≤ 5000) (hm : (m : Int) ≤ 20000) (ts : List ByteArray) (hts : ts.length = m) (hk : TextsAt w p q n ts) (hc : ∀ s ∈ ts, 0 < s.size ∧ s.size ≤ 20000) :
    Calls Tryz.prog 131 #[.slice p n c, .slice q m d, .func (.func 133) #[] #[]] w fun e w' => e = .returned (.bool (decide ((ts.map (fun s : ByteArray => s.data.toList.take 1)).Nodup))) ∧ Below w.heap.size w w' := by
  have hmm := @run_makeMap Tryz.prog
  have Hk := hid hk
  have Hts := hid hts
  have Hc := hid hc
  clear hk hts hc
  go_enter Tryz.func131, Tryz.ntmps131
  go_wp2
  go_loopw [13] (fun i wr => ∃ (k : Nat) (D : DataW Unit), k ≤ m ∧ i = .int .i64 k ∧ wr.ownsMap Tryz.prog 9 (plainElem Tryz.prog 3) w.heap.size k D ∧ Below w.heap.size w wr ∧ Hid (SetOf D ((ts.map (fun s : ByteArray => s.data.toList.take 1)).take k)))
    (fun i _ => m - (intOf i).toNat)
  case atStart => exact ⟨0, _, Nat.zero_le _, rfl, World.ownsMap_made _ _ _ _, by repeat (first | exact Below.refl _ _ | refine bG ?_ _ | refine bI ?_ _ _ | refine bA ?_ _), hid SetOf.nil⟩
  case round =>
    obtain ⟨k, D, hk, rfl, hown, hnx, hS⟩ := hrel
    by_cases hlt : k < m
    · have hkl : k < ts.length := by have := Hts.out; omega
      have hg : ts[k]? = some ts[k] := List.getElem?_eq_getElem hkl
      have hcs := Hc.out ts[k] (List.getElem_mem hkl)
      obtain ⟨b, o, bq, oq, kk, rfl, rfl, hb, hbq, hkk, h1, h2⟩ := Hk.out k _ hg
      have e1 : wr.cell? ⟨bq, oq + k, none⟩ = some (.int .i64 kk) := (hnx.cell (p := ⟨bq, oq + k, none⟩) hbq).trans h1
      have e2 : wr.cell? ⟨b, o + kk * 4 + 1, none⟩ = some (.string ts[k]) := (hnx.cell (p := ⟨b, o + kk * 4 + 1, none⟩) hb).trans h2
      have hst : (ts.map (fun s : ByteArray => s.data.toList.take 1)).take (k + 1) = (ts.map (fun s : ByteArray => s.data.toList.take 1)).take k ++ [(fun s : ByteArray => s.data.toList.take 1) ts[k]] := by
        rw [List.take_succ_eq_append_getElem (by simpa using hkl)]; simp
      clear h1 h2 hg
      generalize ts[k] = s at *
      obtain ⟨t, ht⟩ : ∃ t : ByteArray, t = (s.extract 0 1) := ⟨_, rfl⟩
      have Hcut : Hid (∀ w, Calls Tryz.prog 133 #[.string s] w fun e w' => e = .returned (.string t) ∧ w = w') := hid (by rw [ht]; exact cut_one s hcs)
      have htl : (fun s : ByteArray => s.data.toList.take 1) s = t.data.toList := by subst ht; simp [ByteArray.extract_mk, Array.toList_extract]
      rw [htl] at hst
      have hkey : keyOf Tryz.prog 9 (.string t) = some (.string t.data.toList) := keyOf_string_mk Tryz.underlying9 (by rw [ht]; rw [ByteArray.size_extract]; have := hcs.2; unfold maxLen; omega)
      have Hst := hid hst
      have k0 : (0 : Int) ≤ (k : Int) := by omega
      have k1 : (k : Int) < (m : Int) := by omega
      have kk0 : (0 : Int) ≤ (kk : Int) := by omega
      have kk1 : (kk : Int) < (n : Int) := by omega
      clear hst htl ht hcs
      go_wp2_with (first
        | (go_at_call 133; ((with_reducible refine (Hcut.out _).mono ?_)); rintro e w' ⟨rfl, rfl⟩)
        | (at_lookup; refine wpList_lookup_own_int _ rfl _ _ 147 rfl 9 3 .i64 mlaw Tryz.underlying147 Tryz.underlying3 (zero3 _) w.heap.size k _ rfl hown _ _ rfl hkey ?_; intro c hat hwc)
        | (at_mapUpdate; refine wpList_mapUpdate_own _ rfl _ _ _ 147 rfl 9 3 mlaw Tryz.underlying147 _ w.heap.size k _ rfl hown (by unfold maxLen; omega) _ _ _ rfl rfl hkey _ [] (plainElem_int Tryz.underlying3 (wrap64_wf _)) ?_))
      intro w1 hown1 hgrow1
      have R2 := hnx.grown hgrow1 hnx.size (fun j hj => by cases hj; exact Nat.le_refl _)
      have R3 := hid (hS.out.snoc t.data.toList (.lit (.int .i64 (wrap64 (c + 1)))))
      rw [← Hst.out] at R3
      clear hgrow1 hown e1 e2 hnx hat hwc
      go_wp2
      go_roundw
      case rel => exact ⟨k + 1, _, by omega, by go_num, hown1, R2, R3⟩
      case measure => simp [intOf]; omega
    · obtain rfl : k = m := by omega
      have hS2 := hS.out
      rw [List.take_of_length_le (by rw [List.length_map, Hts.out]; exact Nat.le_refl _)] at hS2
      have hres : Hid ((((Maps.size D : Nat) : Int) == ((k : Nat) : Int)) = decide ((ts.map (fun s : ByteArray => s.data.toList.take 1)).Nodup)) := hid (by
        have h3 := hS2.nodup
        rw [List.length_map, Hts.out] at h3
        by_cases hd : (ts.map (fun s : ByteArray => s.data.toList.take 1)).Nodup
        · rw [decide_eq_true hd, h3.2 hd]; simp
        · rw [decide_eq_false hd]
          cases e : (((Maps.size D : Nat) : Int) == ((k : Nat) : Int)) with
          | false => rfl
          | true => exact absurd (h3.1 (by have := eq_of_beq e; omega)) hd)
      clear hS2 hS
      go_wp2_with (at_len; refine wpList_len_own _ rfl _ 147 rfl 9 3 Tryz.underlying147 _ w.heap.size k D rfl hown ?_)
      go_ret
      exact ⟨by rw [hres.out]; rfl, hnx⟩
end Go.Proofs.YtbgjanmheagilaaGreatDoor

/- What else is asked of a node: tree.more, walked, of most kinds. Conditions: the nodes ahead are as they should be. -/
namespace Go.Proofs.YtbgjanmheagilaaGreatDoor
open Go Go.RowKit Go.Nodes
set_option linter.unusedVariables false
set_option linter.unusedSimpArgs false
theorem ne_bne {a b : Int} (h : a ≠ b) : (a != b) = true := by simp [bne, ne_beq h]
@[reducible] def ndV (x : Nd) : Value := .agg #[.int .i64 x.kind, .string x.text, .slice x.kp x.kids.length x.kcap, .int .i64 x.place]
set_option maxRecDepth 10000 in
set_option maxHeartbeats 4000000 in
theorem more_other (w : World) (p : Option Addr) (L c : Nat) (x : Nd) (hk : x.kind ≠ 1 ∧ x.kind ≠ 3 ∧ x.kind ≠ 6 ∧ x.kind ≠ 7 ∧ x.kind ≠ 21 ∧ x.kind ≠ 32) :
    Calls Tryz.prog 94 #[.slice p L c, ndV x] w fun e w' => e = must_end true ∧ Below w.heap.size w w' := by
  have e1 := ne_beq hk.1
  have e2 := ne_beq hk.2.1
  have e3 := ne_beq hk.2.2.1
  have e4 := ne_beq hk.2.2.2.1
  have e5 := ne_beq hk.2.2.2.2.1
  have e6 := ne_beq hk.2.2.2.2.2
  obtain ⟨kx, text, kp, kcap, kids, place⟩ := x
  simp only at e1 e2 e3 e4 e5 e6
  clear hk
  generalize kids.length = q
  go_enter Tryz.func94, Tryz.ntmps94
  go_wp2
  go_end0
  exact ⟨rfl, by repeat (first | exact Below.refl _ _ | refine bG ?_ _ | refine bI ?_ _ _ | refine bA ?_ _)⟩
set_option maxRecDepth 10000 in
set_option maxHeartbeats 4000000 in
theorem more_block (w : World) (p : Option Addr) (c : Nat) (ns : List Nd) (hL : (ns.length : Int) ≤ 5000) (ha : NodesAt w p ns) (n : Nat) (hn : n < ns.length) (text : ByteArray) (kp : Option Addr) (kcap : Nat) (kids : List Int) (place : Int) (hf : IntsAt w kp kids) (hks : (kids.length : Int) ≤ 20000) (hkid : ∀ k ∈ kids, 0 ≤ k ∧ k < n) :
    Calls Tryz.prog 94 #[.slice p ns.length c, ndV ⟨3, text, kp, kcap, kids, place⟩] w fun e w' => e = must_end (kids.dropLast.all (blockP ns)) ∧ Below w.heap.size w w' := by
  have Hkid := hid hkid
  have Hf := hid hf
  have Ha := hid ha
  have hns : ns.length ≤ 5000 := by omega
  obtain ⟨L, hLL⟩ : ∃ L, L = ns.length := ⟨_, rfl⟩
  rw [← hLL] at hL hns ⊢
  have HL := hid hLL
  obtain ⟨q, hq⟩ : ∃ q, q = kids.length := ⟨_, rfl⟩
  unfold ndV
  simp only
  rw [← hq] at hks ⊢
  have Hq := hid hq
  clear hkid hf ha hLL hq
  go_enter Tryz.func94, Tryz.ntmps94
  go_wp2
  go_loopw [14] (fun iv wr => ∃ (j : Nat) (g : Gro), iv = .int .i64 j ∧ j ≤ q ∧ wr = grow (w.alloc (.cells #[.int .i64 3, .string text, .slice kp q kcap, .int .i64 place] 30)) g ∧ Hid ((kids.dropLast.drop j).all (blockP ns) = kids.dropLast.all (blockP ns))) (fun iv _ => q - (intOf iv).toNat)
  case atStart => exact ⟨0, _, rfl, by omega, (grow_refl _).symm, rfl⟩
  case round =>
    obtain ⟨j, g, rfl, hj, rfl, hR⟩ := hrel
    by_cases hjq : j < q
    · have hjl : j < kids.length := by have := Hq.out; omega
      rcases Hf.out with ix | ⟨bk, ok, hkp, hbk, hck⟩
      · subst ix; simp at hjl
      subst hkp
      replace hck := hck j hjl
      have hkin := Hkid.out kids[j] (List.getElem_mem hjl)
      have j0 : (0 : Int) ≤ (j : Int) := by omega
      have j1 : (j : Int) < (q : Int) := by omega
      by_cases hlast : j + 1 < q
      · have hd := dropLast_at kids j (by have := Hq.out; omega)
        have hr := hR.out
        rw [hd, List.all_cons] at hr
        obtain ⟨z, hz⟩ : ∃ z : Nat, kids[j] = (z : Int) := ⟨(kids[j]).toNat, by omega⟩
        rw [hz] at hr hkin hck
        have hzl : z < ns.length := by omega
        obtain ⟨b2, o2, hp2, hb2, hx2, hf2, d0, d1, d2, d3⟩ := nd_at Ha.out hzl
        subst hp2
        have hka := kindAt_of hx2
        have hP : blockP ns (z : Int) = decide (ns[z].kind ≠ 10 ∧ ns[z].kind ≠ 11) := by unfold blockP; rw [hka]
        rw [hP] at hr
        have z0 : (0 : Int) ≤ (z : Int) := by omega
        have z1 : (z : Int) < (L : Int) := by have := HL.out; omega
        have j2 := ne_beq (show (j : Int) ≠ (q : Int) - 1 by omega)
        have Hr := hid hr
        clear hR hr hd hx2 hf2 hka hP hz hjl d1 d2 d3
        generalize ns[z] = y at *
        generalize y.kind = ky at *
        by_cases y10 : ky = 10
        · have HR : Hid (kids.dropLast.all (blockP ns) = false) := hid (by rw [← Hr.out, y10]; rfl)
          subst y10
          clear Hr
          go_wp2_with (go_at_call 91; ((with_reducible refine (must_no _).mono ?_)); rintro e w' ⟨rfl, hw⟩; rw [hw]; clear hw w')
          exact ⟨rfl, by rw [HR.out]; rfl, by repeat (first | exact Below.refl _ _ | refine bG ?_ _ | refine bI ?_ _ _ | refine bA ?_ _)⟩
        · have y10' := ne_bne y10
          by_cases y11 : ky = 11
          · have HR : Hid (kids.dropLast.all (blockP ns) = false) := hid (by rw [← Hr.out, y11]; rfl)
            subst y11
            clear Hr
            go_wp2_with (go_at_call 91; ((with_reducible refine (must_no _).mono ?_)); rintro e w' ⟨rfl, hw⟩; rw [hw]; clear hw w')
            exact ⟨rfl, by rw [HR.out]; rfl, by repeat (first | exact Below.refl _ _ | refine bG ?_ _ | refine bI ?_ _ _ | refine bA ?_ _)⟩
          · have y11' := ne_bne y11
            have HR : Hid ((kids.dropLast.drop (j + 1)).all (blockP ns) = kids.dropLast.all (blockP ns)) := hid (by
              rw [← Hr.out, decide_eq_true (⟨y10, y11⟩ : ky ≠ 10 ∧ ky ≠ 11), Bool.true_and])
            clear Hr y10 y11
            go_wp2_with (go_at_call 91; ((with_reducible refine (must_yes _).mono ?_)); rintro e w' ⟨rfl, hw⟩; rw [hw]; clear hw w')
            go_roundw
            case rel => exact ⟨j + 1, _, by go_num, by omega, rfl, HR⟩
            case measure => simp [intOf]; omega
      · have hd := dropLast_end kids j (by have := Hq.out; omega)
        have hd2 := dropLast_end kids (j + 1) (by have := Hq.out; omega)
        have hr := hR.out
        rw [hd] at hr
        have Hr : Hid ((kids.dropLast.drop (j + 1)).all (blockP ns) = kids.dropLast.all (blockP ns)) := hid (by rw [hd2]; exact hr)
        have j2 : ((j : Int) == (q : Int) - 1) = true := by simp; omega
        generalize kids[j] = u at *
        clear hR hr hd hd2
        go_wp2_with (go_at_call 91; ((with_reducible refine (must_yes _).mono ?_)); rintro e w' ⟨rfl, hw⟩; rw [hw]; clear hw w')
        go_roundw
        case rel => exact ⟨j + 1, _, by go_num, by omega, rfl, Hr⟩
        case measure => simp [intOf]; omega
    · obtain rfl : j = q := by omega
      have hr := hR.out
      rw [dropLast_end kids j (by have := Hq.out; omega)] at hr
      have Hr := hid (show kids.dropLast.all (blockP ns) = true from hr.symm)
      have j1 : ¬ (j : Int) < (j : Int) := by omega
      clear hR hr
      go_wp2
      go_end0
      exact ⟨by rw [Hr.out]; rfl, by repeat (first | exact Below.refl _ _ | refine bG ?_ _ | refine bI ?_ _ _ | refine bA ?_ _)⟩
end Go.Proofs.YtbgjanmheagilaaGreatDoor
