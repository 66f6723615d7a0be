/- Whether kids are as a form wants them: the walk. Conditions: the kids stand. -/
import Derived.Outline
import Derived.Test.YtjchnliaglecoaaGreatDoorNrX
import Derived.Test.YtjchnliaglecoaaGreatDoorTs
set_option linter.unusedVariables false
set_option linter.unusedSimpArgs false
namespace Go.Proofs.YtjchnliaglecoaaGreatDoor
open Go Go.RowKit
set_option linter.unusedVariables false
set_option linter.unusedSimpArgs false
/-- What is looked at, letter by letter. -/
def runF (sp : Nat) : List UInt8 → List Nat → Bool
  | [], _ => true
  | c :: f, ks => if c = 42 ∨ c = 46 then runF sp f ks else
      (ks.take (if f.head? = some 42 then sp else 1)).all (fun k => isS k c.toNat) && runF sp f (ks.drop (if f.head? = some 42 then sp else 1))
/-- How many kids that takes. -/
def needF (sp : Nat) : List UInt8 → Nat
  | [] => 0
  | c :: f => if c = 42 ∨ c = 46 then needF sp f else (if f.head? = some 42 then sp else 1) + needF sp f
theorem runF_drop (sp : Nat) (f : List UInt8) (i : Nat) (hi : i < f.length) (ks : List Nat) : runF sp (f.drop i) ks = if f[i] = 42 ∨ f[i] = 46 then runF sp (f.drop (i + 1)) ks else
      (ks.take (if f[i + 1]? = some 42 then sp else 1)).all (fun k => isS k f[i].toNat) && runF sp (f.drop (i + 1)) (ks.drop (if f[i + 1]? = some 42 then sp else 1)) := by
  rw [List.drop_eq_getElem_cons hi]
  conv => lhs; unfold runF
  rw [List.head?_drop]
theorem needF_drop (sp : Nat) (f : List UInt8) (i : Nat) (hi : i < f.length) : needF sp (f.drop i) = if f[i] = 42 ∨ f[i] = 46 then needF sp (f.drop (i + 1)) else (if f[i + 1]? = some 42 then sp else 1) + needF sp (f.drop (i + 1)) := by
  rw [List.drop_eq_getElem_cons hi]
  conv => lhs; unfold needF
  rw [List.head?_drop]
/-- Where the kids' kinds lie. -/
def KidsAt (w : World) (p q : Option Addr) (n : Nat) (ks : List Nat) : Prop := ∀ (i k : Nat), ks[i]? = some k → 0 < k ∧ k < 37 ∧
  ∃ b o bq oq kk : Nat, p = some ⟨b, o, none⟩ ∧ q = some ⟨bq, oq, none⟩ ∧ b < w.heap.size ∧ bq < w.heap.size ∧ kk < n ∧ w.cell? ⟨bq, oq + i, none⟩ = some (.int .i64 kk) ∧ w.cell? ⟨b, o + kk * 4, none⟩ = some (.int .i64 k)
set_option maxRecDepth 10000 in
set_option maxHeartbeats 4000000 in
theorem fits_loop0 (w : World) (p q : Option Addr) (n c m d : Nat) (f : ByteArray) (hf : f.size ≤ 10) (hm : m ≤ 20000) (hn : n ≤ 5000) (ks : List Nat) (hks : ks.length = m) (hk : KidsAt w p q n ks)
    (F sp : Nat) (hF : (m : Int) = F + sp) (hne : (f.toList == []) = false) (hd : (f.toList == [46]) = false) (st : Nat) (hst : (st : Int) ≤ 5) (hfs : (f.size : Int) = F + 2 * st) (hsp : sp = 0)
    (hc : ∀ w, Calls Tryz.prog 179 #[.string f, .string ⟨#[42]⟩] w fun e w' => e = .returned (.int .i64 st) ∧ w' = w)
    (hlet : ∀ x ∈ f.data.toList, x.toNat ∈ letters ∨ x = 42 ∨ x = 46) (hneed : needF sp f.data.toList ≤ m) (R : Bool) (hR : runF sp f.data.toList ks = R) :
    Calls Tryz.prog 140 #[.slice p n c, .slice q m d, .string f] w fun e w' => e = must_end R ∧ Below w.heap.size w w' := by
  have Hc := hid hc
  have Hk := hid hk
  have Hks := hid hks
  have Hlet := hid hlet
  have HR := hid hR
  have Hneed := hid hneed
  have hne2 : f.toList.isEmpty = false := by cases e : f.toList with
    | nil => rw [e] at hne; cases hne
    | cons x l => rfl
  have hF1 : (f.size : Int) - 2 * (st : Int) = (F : Int) := by omega
  have hF2 : (m : Int) - (F : Int) = (sp : Int) := by omega
  have hF3 : (F : Int) ≤ (m : Int) := by omega
  have hm2 : (m : Int) ≤ 20000 := by omega
  have hsm : sp ≤ m := by omega
  have hfl : f.data.toList.length = f.size := by simp
  have Hfl := hid hfl
  clear hc hk hks hlet hR hneed hF hfs hfl
  go_enter Tryz.func140, Tryz.ntmps140
  go_wp2_with (first
    | (go_at_call 139; refine (must_yes _).mono ?_; rintro e w' ⟨rfl, hw⟩; rw [hw]; clear hw w')
    | (go_at_call 179; refine (Hc.out _).mono ?_; rintro e w' ⟨rfl, hw⟩; rw [hw]; clear hw w'))
  go_loopw [9] (fun av wr => ∃ (pos at1 : Nat) (g : Gro), av = .int .i64 at1 ∧ wr = grow (w.iter f pos) g ∧ pos ≤ f.size ∧ at1 ≤ m ∧ Hid (runF sp (f.data.toList.drop pos) (ks.drop at1) = R ∧ at1 + needF sp (f.data.toList.drop pos) ≤ m)) (fun _ wr => f.size - wr.iterPos w.heap.size)
  case atStart => exact ⟨0, 0, _, rfl, (grow_refl _).symm, by omega, by omega, HR.out, by have := Hneed.out; simpa using this⟩
  case round =>
    obtain ⟨pos, at1, g, rfl, rfl, hp, hat, hR⟩ := hrel
    by_cases hlt : pos < f.size
    · have hpl : pos < f.data.toList.length := by rw [Hfl.out]; exact hlt
      have hru := runF_drop sp f.data.toList pos hpl (ks.drop at1)
      have hnu := needF_drop sp f.data.toList pos hpl
      rw [hR.out.1] at hru
      have hnn := hR.out.2
      rw [hnu] at hnn
      have hb : f.data.toList[pos] = f[pos] := by simp [ByteArray.getElem_eq_getElem_data]
      have hx := Hlet.out _ (List.getElem_mem hpl)
      rw [hb] at hru hnn hx
      have h128 : (f[pos]).toNat < 128 := by
        rcases hx with h | h | h
        · have : letters.all (fun c => decide (c < 128)) = true := by decide
          exact of_decide_eq_true (List.all_eq_true.1 this _ h)
        · rw [h]; decide
        · rw [h]; decide
      have hdec := decode_ascii f pos hlt h128
      have nx := next_at_q (P := Tryz.prog) f pos _ (pos + 1) hlt (by rw [hdec, Nat.add_sub_cancel_left]) (by omega)
      have hcx : ((f[pos]).toNat = 42 ∨ (f[pos]).toNat = 46) ↔ (f[pos] = 42 ∨ f[pos] = 46) := by
        constructor
        · rintro (h | h)
          · exact .inl (UInt8.toNat_inj.1 h)
          · exact .inr (UInt8.toNat_inj.1 h)
        · rintro (h | h) <;> rw [h]
          · exact .inl rfl
          · exact .inr rfl
      by_cases hcs : f[pos] = 42 ∨ f[pos] = 46
      · rw [if_pos hcs] at hru hnn
        have Hru := hid hru
        have Hnn := hid hnn
        rcases hcs with hcs | hcs
        all_goals
          rw [hcs] at nx
          clear hru hnn hR hnu hb hx h128 hdec hcx hcs
          go_wp2
          refine ⟨⟨pos + 1, at1, g, rfl, rfl, by omega, hat, Hru.out.symm, Hnn.out⟩, ?_⟩
          rw [iterPos_grow _ _ _ _ _ rfl, iterPos_grow _ _ _ _ _ rfl]; omega
      · rw [if_neg hcs] at hru hnn
        have hnc : (f[pos]).toNat ≠ 42 ∧ (f[pos]).toNat ≠ 46 := ⟨fun h => hcs (hcx.1 (.inl h)), fun h => hcs (hcx.1 (.inr h))⟩
        have hcl : (f[pos]).toNat ∈ letters := by
          rcases hx with h | h | h
          · exact h
          · exact absurd (.inl h) hcs
          · exact absurd (.inr h) hcs
        have hnext : f.data.toList[pos + 1]? = if h : pos + 1 < f.size then some f[pos + 1] else none := by
          split
          · rename_i h
            rw [List.getElem?_eq_getElem (by rw [Hfl.out]; exact h)]
            simp [ByteArray.getElem_eq_getElem_data]
          · rename_i h
            exact List.getElem?_eq_none (by rw [Hfl.out]; omega)
        rw [hnext] at hru hnn
        have hc1 : (((f[pos]).toNat : Int) == 42) = false := by
          cases e : (((f[pos]).toNat : Int) == 42) with
          | false => rfl
          | true => have := eq_of_beq e; omega
        have hc2 : (((f[pos]).toNat : Int) == 46) = false := by
          cases e : (((f[pos]).toNat : Int) == 46) with
          | false => rfl
          | true => have := eq_of_beq e; omega
        generalize (f[pos]).toNat = c1 at *
        have hp1 : (pos : Int) + 1 ≤ 10 := by omega
        clear hnc hcx hcs hdec hx hb hnu hR hnext h128
        by_cases hn1 : pos + 1 < f.size
        · rw [dif_pos hn1] at hru hnn
          have hn2 : (pos : Int) + 1 < (f.size : Int) := by omega
          by_cases hs : f[pos + 1] = 42
          · rw [hs, if_pos rfl] at hru hnn
            have hs1 : (f[pos + 1]).toNat = 42 := by rw [hs]; rfl
            have Hru := hid hru
            have Hnn := hid hnn
            clear hru hnn hs
            go_wp2
            go_loopw [9, 66] (fun av cv wr => ∃ (j : Nat) (g2 : Gro), av = .int .i64 ((at1 + j : Nat) : Int) ∧ cv = .int .i64 j ∧ wr = grow (w.iter f (pos + 1)) g2 ∧ j ≤ sp ∧ Hid ((((ks.drop at1).drop j).take (sp - j)).all (fun k => isS k c1) = ((ks.drop at1).take sp).all (fun k => isS k c1))) (fun _ cv _ => sp - (intOf cv).toNat)
            case atStart => exact ⟨0, g, by simp, rfl, rfl, by omega, rfl⟩
            case round =>
              obtain ⟨j, g2, rfl, rfl, rfl, hj, hJ⟩ := hrel
              by_cases hjn : j < sp
              · omega
              · obtain rfl : j = sp := by omega
                have hJ2 := hJ.out
                rw [show j - j = 0 by omega, List.take_zero, List.all_nil] at hJ2
                have hRu := Hru.out
                rw [← hJ2, Bool.true_and, List.drop_drop] at hRu
                have HRu := hid hRu
                have a3 : ¬ ((j : Nat) : Int) < ((j : Nat) : Int) := by omega
                clear hJ2 hJ hRu
                go_wp2
                refine ⟨⟨pos + 1, at1 + j, g2, by simp, rfl, by omega, by have := Hnn.out; omega, HRu.out.symm, by have := Hnn.out; omega⟩, ?_⟩
                rw [iterPos_grow _ _ _ _ _ rfl, iterPos_grow _ _ _ _ _ rfl]; omega
          · rw [if_neg (fun h => hs (Option.some.inj h))] at hru hnn
            have hs1 : (((f[pos + 1]).toNat : Int) == 42) = false := by
              cases e : (((f[pos + 1]).toNat : Int) == 42) with
              | false => rfl
              | true => exact absurd (UInt8.toNat_inj.1 (by have := eq_of_beq e; show (f[pos + 1]).toNat = 42; omega)) hs
            have Hru := hid hru
            have Hnn := hid hnn
            obtain ⟨c9, hc9⟩ : ∃ c9, (f[pos + 1]).toNat = c9 := ⟨_, rfl⟩
            rw [hc9] at hs1
            clear hru hnn hs
            go_wp2
            go_loopw [9, 66] (fun av cv wr => ∃ (j : Nat) (g2 : Gro), av = .int .i64 ((at1 + j : Nat) : Int) ∧ cv = .int .i64 j ∧ wr = grow (w.iter f (pos + 1)) g2 ∧ j ≤ 1 ∧ Hid ((((ks.drop at1).drop j).take (1 - j)).all (fun k => isS k c1) = ((ks.drop at1).take 1).all (fun k => isS k c1))) (fun _ cv _ => 1 - (intOf cv).toNat)
            case atStart => exact ⟨0, g, by simp, rfl, rfl, by omega, rfl⟩
            case round =>
              obtain ⟨j, g2, rfl, rfl, rfl, hj, hJ⟩ := hrel
              by_cases hjn : j < 1
              · have haj : at1 + j < ks.length := by rw [Hks.out]; have := Hnn.out; omega
                have hdj : ((ks.drop at1).drop j).take (1 - j) = ks[at1 + j] :: ((ks.drop at1).drop (j + 1)).take (1 - (j + 1)) := by
                  rw [List.drop_drop, List.drop_eq_getElem_cons haj, show 1 - j = (1 - (j + 1)) + 1 by omega, List.take_succ_cons, List.drop_drop]
                  rfl
                have hJ2 := hJ.out
                rw [hdj, List.all_cons] at hJ2
                obtain ⟨k0, k36, b, o, bq, oq, kk, rfl, rfl, hb1, hb2, hkn, hq1, hq2⟩ := Hk.out (at1 + j) ks[at1 + j] (List.getElem?_eq_getElem haj)
                generalize ks[at1 + j] = kd at *
                have HJ := hid hJ2
                have a0 : (0 : Int) ≤ ((at1 + j : Nat) : Int) := by omega
                have a1 : ((at1 + j : Nat) : Int) < (m : Int) := by have := Hks.out; omega
                have a2 : (kk : Int) < (n : Int) := by omega
                have a3 : (j : Int) < (1 : Int) := by omega
                have a4 : ((at1 + j : Nat) : Int) ≤ 20000 := by omega
                have a5 : (0 : Int) ≤ (kk : Int) := by omega
                clear hJ hJ2 hdj haj
                generalize hA : at1 + j = A at *
                have HA := hid hA
                clear hA
                cases hg : isS kd c1 with
                | true =>
                  go_wp2_with (first
                    | (go_at_call 180; ((with_reducible refine (good_any kd c1 k0 k36 hcl _).mono ?_)); rintro e w' ⟨rfl, hb⟩; obtain ⟨g3, rfl⟩ := bout hb; clear hb; rw [hg])
                    | (go_at_call 139; ((with_reducible refine (must_yes _).mono ?_)); rintro e w' ⟨rfl, hw⟩; rw [hw]; clear hw w'))
                  exact ⟨⟨j + 1, _, by congr 1; have := HA.out; omega, by simp, rfl, by omega, by have := HJ.out; rw [hg, Bool.true_and] at this; exact this⟩, by simp [intOf]; omega⟩
                | false =>
                  go_wp2_with (first
                    | (go_at_call 180; ((with_reducible refine (good_any kd c1 k0 k36 hcl _).mono ?_)); rintro e w' ⟨rfl, hb⟩; obtain ⟨g3, rfl⟩ := bout hb; clear hb; rw [hg])
                    | (go_at_call 139; ((with_reducible refine (must_no _).mono ?_)); rintro e w' ⟨rfl, hw⟩; rw [hw]; clear hw w'))
                  have hRf : R = false := by
                    have h1 := HJ.out
                    rw [hg, Bool.false_and] at h1
                    rw [Hru.out, ← h1, Bool.false_and]
                  exact ⟨rfl, by rw [hRf]; rfl, by repeat (first | exact Below.refl _ _ | refine bG ?_ _ | refine bI ?_ _ _ | refine bA ?_ _ | refine bD ?_ | refine bN ?_ _)⟩
              · obtain rfl : j = 1 := by omega
                have hJ2 := hJ.out
                rw [show 1 - 1 = 0 by omega, List.take_zero, List.all_nil] at hJ2
                have hRu := Hru.out
                rw [← hJ2, Bool.true_and, List.drop_drop] at hRu
                have HRu := hid hRu
                have a3 : ¬ ((1 : Nat) : Int) < ((1 : Nat) : Int) := by omega
                clear hJ2 hJ hRu
                go_wp2
                refine ⟨⟨pos + 1, at1 + 1, g2, by simp, rfl, by omega, by have := Hnn.out; omega, HRu.out.symm, by have := Hnn.out; omega⟩, ?_⟩
                rw [iterPos_grow _ _ _ _ _ rfl, iterPos_grow _ _ _ _ _ rfl]; omega
        · rw [dif_neg hn1, if_neg (by simp)] at hru hnn
          have hn2 : ¬ (pos : Int) + 1 < (f.size : Int) := by omega
          have Hru := hid hru
          have Hnn := hid hnn
          clear hru hnn
          go_wp2
          go_loopw [9, 66] (fun av cv wr => ∃ (j : Nat) (g2 : Gro), av = .int .i64 ((at1 + j : Nat) : Int) ∧ cv = .int .i64 j ∧ wr = grow (w.iter f (pos + 1)) g2 ∧ j ≤ 1 ∧ Hid ((((ks.drop at1).drop j).take (1 - j)).all (fun k => isS k c1) = ((ks.drop at1).take 1).all (fun k => isS k c1))) (fun _ cv _ => 1 - (intOf cv).toNat)
          case atStart => exact ⟨0, g, by simp, rfl, rfl, by omega, rfl⟩
          case round =>
            obtain ⟨j, g2, rfl, rfl, rfl, hj, hJ⟩ := hrel
            by_cases hjn : j < 1
            · have haj : at1 + j < ks.length := by rw [Hks.out]; have := Hnn.out; omega
              have hdj : ((ks.drop at1).drop j).take (1 - j) = ks[at1 + j] :: ((ks.drop at1).drop (j + 1)).take (1 - (j + 1)) := by
                rw [List.drop_drop, List.drop_eq_getElem_cons haj, show 1 - j = (1 - (j + 1)) + 1 by omega, List.take_succ_cons, List.drop_drop]
                rfl
              have hJ2 := hJ.out
              rw [hdj, List.all_cons] at hJ2
              obtain ⟨k0, k36, b, o, bq, oq, kk, rfl, rfl, hb1, hb2, hkn, hq1, hq2⟩ := Hk.out (at1 + j) ks[at1 + j] (List.getElem?_eq_getElem haj)
              generalize ks[at1 + j] = kd at *
              have HJ := hid hJ2
              have a0 : (0 : Int) ≤ ((at1 + j : Nat) : Int) := by omega
              have a1 : ((at1 + j : Nat) : Int) < (m : Int) := by have := Hks.out; omega
              have a2 : (kk : Int) < (n : Int) := by omega
              have a3 : (j : Int) < (1 : Int) := by omega
              have a4 : ((at1 + j : Nat) : Int) ≤ 20000 := by omega
              have a5 : (0 : Int) ≤ (kk : Int) := by omega
              clear hJ hJ2 hdj haj
              generalize hA : at1 + j = A at *
              have HA := hid hA
              clear hA
              cases hg : isS kd c1 with
              | true =>
                go_wp2_with (first
                  | (go_at_call 180; ((with_reducible refine (good_any kd c1 k0 k36 hcl _).mono ?_)); rintro e w' ⟨rfl, hb⟩; obtain ⟨g3, rfl⟩ := bout hb; clear hb; rw [hg])
                  | (go_at_call 139; ((with_reducible refine (must_yes _).mono ?_)); rintro e w' ⟨rfl, hw⟩; rw [hw]; clear hw w'))
                exact ⟨⟨j + 1, _, by congr 1; have := HA.out; omega, by simp, rfl, by omega, by have := HJ.out; rw [hg, Bool.true_and] at this; exact this⟩, by simp [intOf]; omega⟩
              | false =>
                go_wp2_with (first
                  | (go_at_call 180; ((with_reducible refine (good_any kd c1 k0 k36 hcl _).mono ?_)); rintro e w' ⟨rfl, hb⟩; obtain ⟨g3, rfl⟩ := bout hb; clear hb; rw [hg])
                  | (go_at_call 139; ((with_reducible refine (must_no _).mono ?_)); rintro e w' ⟨rfl, hw⟩; rw [hw]; clear hw w'))
                have hRf : R = false := by
                  have h1 := HJ.out
                  rw [hg, Bool.false_and] at h1
                  rw [Hru.out, ← h1, Bool.false_and]
                exact ⟨rfl, by rw [hRf]; rfl, by repeat (first | exact Below.refl _ _ | refine bG ?_ _ | refine bI ?_ _ _ | refine bA ?_ _ | refine bD ?_ | refine bN ?_ _)⟩
            · obtain rfl : j = 1 := by omega
              have hJ2 := hJ.out
              rw [show 1 - 1 = 0 by omega, List.take_zero, List.all_nil] at hJ2
              have hRu := Hru.out
              rw [← hJ2, Bool.true_and, List.drop_drop] at hRu
              have HRu := hid hRu
              have a3 : ¬ ((1 : Nat) : Int) < ((1 : Nat) : Int) := by omega
              clear hJ2 hJ hRu
              go_wp2
              refine ⟨⟨pos + 1, at1 + 1, g2, by simp, rfl, by omega, by have := Hnn.out; omega, HRu.out.symm, by have := Hnn.out; omega⟩, ?_⟩
              rw [iterPos_grow _ _ _ _ _ rfl, iterPos_grow _ _ _ _ _ rfl]; omega
    · have nx := next_at_end (P := Tryz.prog) f pos hlt
      have hd2 := hR.out.1
      rw [List.drop_eq_nil_of_le (by rw [Hfl.out]; omega)] at hd2
      have Hd2 := hid (show R = true from hd2.symm)
      clear hd2 hR
      go_wp2
      go_end0
      exact ⟨by rw [Hd2.out]; rfl, by repeat (first | exact Below.refl _ _ | refine bG ?_ _ | refine bI ?_ _ _ | refine bA ?_ _ | refine bD ?_ | refine bN ?_ _)⟩
set_option maxRecDepth 10000 in
set_option maxHeartbeats 4000000 in
theorem fits_loop1 (w : World) (p q : Option Addr) (n c m d : Nat) (f : ByteArray) (hf : f.size ≤ 10) (hm : m ≤ 20000) (hn : n ≤ 5000) (ks : List Nat) (hks : ks.length = m) (hk : KidsAt w p q n ks)
    (F sp : Nat) (hF : (m : Int) = F + sp) (hne : (f.toList == []) = false) (hd : (f.toList == [46]) = false) (st : Nat) (hst : (st : Int) ≤ 5) (hfs : (f.size : Int) = F + 2 * st) (hsp0 : ((sp : Int) == 0) = false) (hsp1 : (0 : Int) < (sp : Int)) (hst0 : (0 : Int) < (st : Int))
    (hc : ∀ w, Calls Tryz.prog 179 #[.string f, .string ⟨#[42]⟩] w fun e w' => e = .returned (.int .i64 st) ∧ w' = w)
    (hlet : ∀ x ∈ f.data.toList, x.toNat ∈ letters ∨ x = 42 ∨ x = 46) (hneed : needF sp f.data.toList ≤ m) (R : Bool) (hR : runF sp f.data.toList ks = R) :
    Calls Tryz.prog 140 #[.slice p n c, .slice q m d, .string f] w fun e w' => e = must_end R ∧ Below w.heap.size w w' := by
  have Hc := hid hc
  have Hk := hid hk
  have Hks := hid hks
  have Hlet := hid hlet
  have HR := hid hR
  have Hneed := hid hneed
  have hne2 : f.toList.isEmpty = false := by cases e : f.toList with
    | nil => rw [e] at hne; cases hne
    | cons x l => rfl
  have hF1 : (f.size : Int) - 2 * (st : Int) = (F : Int) := by omega
  have hF2 : (m : Int) - (F : Int) = (sp : Int) := by omega
  have hF3 : (F : Int) ≤ (m : Int) := by omega
  have hm2 : (m : Int) ≤ 20000 := by omega
  have hsm : sp ≤ m := by omega
  have hfl : f.data.toList.length = f.size := by simp
  have Hfl := hid hfl
  have hst1 : decide (0 < st) = true := decide_eq_true (by omega)
  clear hc hk hks hlet hR hneed hF hfs hfl
  go_enter Tryz.func140, Tryz.ntmps140
  go_wp2_with (first
    | (go_at_call 139; refine (must_yes _).mono ?_; rintro e w' ⟨rfl, hw⟩; rw [hw]; clear hw w')
    | (go_at_call 179; refine (Hc.out _).mono ?_; rintro e w' ⟨rfl, hw⟩; rw [hw]; clear hw w'))
  go_loopw [9] (fun av wr => ∃ (pos at1 : Nat) (g : Gro), av = .int .i64 at1 ∧ wr = grow (w.iter f pos) g ∧ pos ≤ f.size ∧ at1 ≤ m ∧ Hid (runF sp (f.data.toList.drop pos) (ks.drop at1) = R ∧ at1 + needF sp (f.data.toList.drop pos) ≤ m)) (fun _ wr => f.size - wr.iterPos w.heap.size)
  case atStart => exact ⟨0, 0, _, rfl, (grow_refl _).symm, by omega, by omega, HR.out, by have := Hneed.out; simpa using this⟩
  case round =>
    obtain ⟨pos, at1, g, rfl, rfl, hp, hat, hR⟩ := hrel
    by_cases hlt : pos < f.size
    · have hpl : pos < f.data.toList.length := by rw [Hfl.out]; exact hlt
      have hru := runF_drop sp f.data.toList pos hpl (ks.drop at1)
      have hnu := needF_drop sp f.data.toList pos hpl
      rw [hR.out.1] at hru
      have hnn := hR.out.2
      rw [hnu] at hnn
      have hb : f.data.toList[pos] = f[pos] := by simp [ByteArray.getElem_eq_getElem_data]
      have hx := Hlet.out _ (List.getElem_mem hpl)
      rw [hb] at hru hnn hx
      have h128 : (f[pos]).toNat < 128 := by
        rcases hx with h | h | h
        · have : letters.all (fun c => decide (c < 128)) = true := by decide
          exact of_decide_eq_true (List.all_eq_true.1 this _ h)
        · rw [h]; decide
        · rw [h]; decide
      have hdec := decode_ascii f pos hlt h128
      have nx := next_at_q (P := Tryz.prog) f pos _ (pos + 1) hlt (by rw [hdec, Nat.add_sub_cancel_left]) (by omega)
      have hcx : ((f[pos]).toNat = 42 ∨ (f[pos]).toNat = 46) ↔ (f[pos] = 42 ∨ f[pos] = 46) := by
        constructor
        · rintro (h | h)
          · exact .inl (UInt8.toNat_inj.1 h)
          · exact .inr (UInt8.toNat_inj.1 h)
        · rintro (h | h) <;> rw [h]
          · exact .inl rfl
          · exact .inr rfl
      by_cases hcs : f[pos] = 42 ∨ f[pos] = 46
      · rw [if_pos hcs] at hru hnn
        have Hru := hid hru
        have Hnn := hid hnn
        rcases hcs with hcs | hcs
        all_goals
          rw [hcs] at nx
          clear hru hnn hR hnu hb hx h128 hdec hcx hcs
          go_wp2
          refine ⟨⟨pos + 1, at1, g, rfl, rfl, by omega, hat, Hru.out.symm, Hnn.out⟩, ?_⟩
          rw [iterPos_grow _ _ _ _ _ rfl, iterPos_grow _ _ _ _ _ rfl]; omega
      · rw [if_neg hcs] at hru hnn
        have hnc : (f[pos]).toNat ≠ 42 ∧ (f[pos]).toNat ≠ 46 := ⟨fun h => hcs (hcx.1 (.inl h)), fun h => hcs (hcx.1 (.inr h))⟩
        have hcl : (f[pos]).toNat ∈ letters := by
          rcases hx with h | h | h
          · exact h
          · exact absurd (.inl h) hcs
          · exact absurd (.inr h) hcs
        have hnext : f.data.toList[pos + 1]? = if h : pos + 1 < f.size then some f[pos + 1] else none := by
          split
          · rename_i h
            rw [List.getElem?_eq_getElem (by rw [Hfl.out]; exact h)]
            simp [ByteArray.getElem_eq_getElem_data]
          · rename_i h
            exact List.getElem?_eq_none (by rw [Hfl.out]; omega)
        rw [hnext] at hru hnn
        have hc1 : (((f[pos]).toNat : Int) == 42) = false := by
          cases e : (((f[pos]).toNat : Int) == 42) with
          | false => rfl
          | true => have := eq_of_beq e; omega
        have hc2 : (((f[pos]).toNat : Int) == 46) = false := by
          cases e : (((f[pos]).toNat : Int) == 46) with
          | false => rfl
          | true => have := eq_of_beq e; omega
        generalize (f[pos]).toNat = c1 at *
        have hp1 : (pos : Int) + 1 ≤ 10 := by omega
        clear hnc hcx hcs hdec hx hb hnu hR hnext h128
        by_cases hn1 : pos + 1 < f.size
        · rw [dif_pos hn1] at hru hnn
          have hn2 : (pos : Int) + 1 < (f.size : Int) := by omega
          by_cases hs : f[pos + 1] = 42
          · rw [hs, if_pos rfl] at hru hnn
            have hs1 : (f[pos + 1]).toNat = 42 := by rw [hs]; rfl
            have Hru := hid hru
            have Hnn := hid hnn
            clear hru hnn hs
            go_wp2
            go_loopw [9, 66] (fun av cv wr => ∃ (j : Nat) (g2 : Gro), av = .int .i64 ((at1 + j : Nat) : Int) ∧ cv = .int .i64 j ∧ wr = grow (w.iter f (pos + 1)) g2 ∧ j ≤ sp ∧ Hid ((((ks.drop at1).drop j).take (sp - j)).all (fun k => isS k c1) = ((ks.drop at1).take sp).all (fun k => isS k c1))) (fun _ cv _ => sp - (intOf cv).toNat)
            case atStart => exact ⟨0, g, by simp, rfl, rfl, by omega, rfl⟩
            case round =>
              obtain ⟨j, g2, rfl, rfl, rfl, hj, hJ⟩ := hrel
              by_cases hjn : j < sp
              · have haj : at1 + j < ks.length := by rw [Hks.out]; have := Hnn.out; omega
                have hdj : ((ks.drop at1).drop j).take (sp - j) = ks[at1 + j] :: ((ks.drop at1).drop (j + 1)).take (sp - (j + 1)) := by
                  rw [List.drop_drop, List.drop_eq_getElem_cons haj, show sp - j = (sp - (j + 1)) + 1 by omega, List.take_succ_cons, List.drop_drop]
                  rfl
                have hJ2 := hJ.out
                rw [hdj, List.all_cons] at hJ2
                obtain ⟨k0, k36, b, o, bq, oq, kk, rfl, rfl, hb1, hb2, hkn, hq1, hq2⟩ := Hk.out (at1 + j) ks[at1 + j] (List.getElem?_eq_getElem haj)
                generalize ks[at1 + j] = kd at *
                have HJ := hid hJ2
                have a0 : (0 : Int) ≤ ((at1 + j : Nat) : Int) := by omega
                have a1 : ((at1 + j : Nat) : Int) < (m : Int) := by have := Hks.out; omega
                have a2 : (kk : Int) < (n : Int) := by omega
                have a3 : (j : Int) < (sp : Int) := by omega
                have a4 : ((at1 + j : Nat) : Int) ≤ 20000 := by omega
                have a5 : (0 : Int) ≤ (kk : Int) := by omega
                clear hJ hJ2 hdj haj
                generalize hA : at1 + j = A at *
                have HA := hid hA
                clear hA
                cases hg : isS kd c1 with
                | true =>
                  go_wp2_with (first
                    | (go_at_call 180; ((with_reducible refine (good_any kd c1 k0 k36 hcl _).mono ?_)); rintro e w' ⟨rfl, hb⟩; obtain ⟨g3, rfl⟩ := bout hb; clear hb; rw [hg])
                    | (go_at_call 139; ((with_reducible refine (must_yes _).mono ?_)); rintro e w' ⟨rfl, hw⟩; rw [hw]; clear hw w'))
                  exact ⟨⟨j + 1, _, by congr 1; have := HA.out; omega, by simp, rfl, by omega, by have := HJ.out; rw [hg, Bool.true_and] at this; exact this⟩, by simp [intOf]; omega⟩
                | false =>
                  go_wp2_with (first
                    | (go_at_call 180; ((with_reducible refine (good_any kd c1 k0 k36 hcl _).mono ?_)); rintro e w' ⟨rfl, hb⟩; obtain ⟨g3, rfl⟩ := bout hb; clear hb; rw [hg])
                    | (go_at_call 139; ((with_reducible refine (must_no _).mono ?_)); rintro e w' ⟨rfl, hw⟩; rw [hw]; clear hw w'))
                  have hRf : R = false := by
                    have h1 := HJ.out
                    rw [hg, Bool.false_and] at h1
                    rw [Hru.out, ← h1, Bool.false_and]
                  exact ⟨rfl, by rw [hRf]; rfl, by repeat (first | exact Below.refl _ _ | refine bG ?_ _ | refine bI ?_ _ _ | refine bA ?_ _ | refine bD ?_ | refine bN ?_ _)⟩
              · obtain rfl : j = sp := by omega
                have hJ2 := hJ.out
                rw [show j - j = 0 by omega, List.take_zero, List.all_nil] at hJ2
                have hRu := Hru.out
                rw [← hJ2, Bool.true_and, List.drop_drop] at hRu
                have HRu := hid hRu
                have a3 : ¬ ((j : Nat) : Int) < ((j : Nat) : Int) := by omega
                clear hJ2 hJ hRu
                go_wp2
                refine ⟨⟨pos + 1, at1 + j, g2, by simp, rfl, by omega, by have := Hnn.out; omega, HRu.out.symm, by have := Hnn.out; omega⟩, ?_⟩
                rw [iterPos_grow _ _ _ _ _ rfl, iterPos_grow _ _ _ _ _ rfl]; omega
          · rw [if_neg (fun h => hs (Option.some.inj h))] at hru hnn
            have hs1 : (((f[pos + 1]).toNat : Int) == 42) = false := by
              cases e : (((f[pos + 1]).toNat : Int) == 42) with
              | false => rfl
              | true => exact absurd (UInt8.toNat_inj.1 (by have := eq_of_beq e; show (f[pos + 1]).toNat = 42; omega)) hs
            have Hru := hid hru
            have Hnn := hid hnn
            obtain ⟨c9, hc9⟩ : ∃ c9, (f[pos + 1]).toNat = c9 := ⟨_, rfl⟩
            rw [hc9] at hs1
            clear hru hnn hs
            go_wp2
            go_loopw [9, 66] (fun av cv wr => ∃ (j : Nat) (g2 : Gro), av = .int .i64 ((at1 + j : Nat) : Int) ∧ cv = .int .i64 j ∧ wr = grow (w.iter f (pos + 1)) g2 ∧ j ≤ 1 ∧ Hid ((((ks.drop at1).drop j).take (1 - j)).all (fun k => isS k c1) = ((ks.drop at1).take 1).all (fun k => isS k c1))) (fun _ cv _ => 1 - (intOf cv).toNat)
            case atStart => exact ⟨0, g, by simp, rfl, rfl, by omega, rfl⟩
            case round =>
              obtain ⟨j, g2, rfl, rfl, rfl, hj, hJ⟩ := hrel
              by_cases hjn : j < 1
              · have haj : at1 + j < ks.length := by rw [Hks.out]; have := Hnn.out; omega
                have hdj : ((ks.drop at1).drop j).take (1 - j) = ks[at1 + j] :: ((ks.drop at1).drop (j + 1)).take (1 - (j + 1)) := by
                  rw [List.drop_drop, List.drop_eq_getElem_cons haj, show 1 - j = (1 - (j + 1)) + 1 by omega, List.take_succ_cons, List.drop_drop]
                  rfl
                have hJ2 := hJ.out
                rw [hdj, List.all_cons] at hJ2
                obtain ⟨k0, k36, b, o, bq, oq, kk, rfl, rfl, hb1, hb2, hkn, hq1, hq2⟩ := Hk.out (at1 + j) ks[at1 + j] (List.getElem?_eq_getElem haj)
                generalize ks[at1 + j] = kd at *
                have HJ := hid hJ2
                have a0 : (0 : Int) ≤ ((at1 + j : Nat) : Int) := by omega
                have a1 : ((at1 + j : Nat) : Int) < (m : Int) := by have := Hks.out; omega
                have a2 : (kk : Int) < (n : Int) := by omega
                have a3 : (j : Int) < (1 : Int) := by omega
                have a4 : ((at1 + j : Nat) : Int) ≤ 20000 := by omega
                have a5 : (0 : Int) ≤ (kk : Int) := by omega
                clear hJ hJ2 hdj haj
                generalize hA : at1 + j = A at *
                have HA := hid hA
                clear hA
                cases hg : isS kd c1 with
                | true =>
                  go_wp2_with (first
                    | (go_at_call 180; ((with_reducible refine (good_any kd c1 k0 k36 hcl _).mono ?_)); rintro e w' ⟨rfl, hb⟩; obtain ⟨g3, rfl⟩ := bout hb; clear hb; rw [hg])
                    | (go_at_call 139; ((with_reducible refine (must_yes _).mono ?_)); rintro e w' ⟨rfl, hw⟩; rw [hw]; clear hw w'))
                  exact ⟨⟨j + 1, _, by congr 1; have := HA.out; omega, by simp, rfl, by omega, by have := HJ.out; rw [hg, Bool.true_and] at this; exact this⟩, by simp [intOf]; omega⟩
                | false =>
                  go_wp2_with (first
                    | (go_at_call 180; ((with_reducible refine (good_any kd c1 k0 k36 hcl _).mono ?_)); rintro e w' ⟨rfl, hb⟩; obtain ⟨g3, rfl⟩ := bout hb; clear hb; rw [hg])
                    | (go_at_call 139; ((with_reducible refine (must_no _).mono ?_)); rintro e w' ⟨rfl, hw⟩; rw [hw]; clear hw w'))
                  have hRf : R = false := by
                    have h1 := HJ.out
                    rw [hg, Bool.false_and] at h1
                    rw [Hru.out, ← h1, Bool.false_and]
                  exact ⟨rfl, by rw [hRf]; rfl, by repeat (first | exact Below.refl _ _ | refine bG ?_ _ | refine bI ?_ _ _ | refine bA ?_ _ | refine bD ?_ | refine bN ?_ _)⟩
              · obtain rfl : j = 1 := by omega
                have hJ2 := hJ.out
                rw [show 1 - 1 = 0 by omega, List.take_zero, List.all_nil] at hJ2
                have hRu := Hru.out
                rw [← hJ2, Bool.true_and, List.drop_drop] at hRu
                have HRu := hid hRu
                have a3 : ¬ ((1 : Nat) : Int) < ((1 : Nat) : Int) := by omega
                clear hJ2 hJ hRu
                go_wp2
                refine ⟨⟨pos + 1, at1 + 1, g2, by simp, rfl, by omega, by have := Hnn.out; omega, HRu.out.symm, by have := Hnn.out; omega⟩, ?_⟩
                rw [iterPos_grow _ _ _ _ _ rfl, iterPos_grow _ _ _ _ _ rfl]; omega
        · rw [dif_neg hn1, if_neg (by simp)] at hru hnn
          have hn2 : ¬ (pos : Int) + 1 < (f.size : Int) := by omega
          have Hru := hid hru
          have Hnn := hid hnn
          clear hru hnn
          go_wp2
          go_loopw [9, 66] (fun av cv wr => ∃ (j : Nat) (g2 : Gro), av = .int .i64 ((at1 + j : Nat) : Int) ∧ cv = .int .i64 j ∧ wr = grow (w.iter f (pos + 1)) g2 ∧ j ≤ 1 ∧ Hid ((((ks.drop at1).drop j).take (1 - j)).all (fun k => isS k c1) = ((ks.drop at1).take 1).all (fun k => isS k c1))) (fun _ cv _ => 1 - (intOf cv).toNat)
          case atStart => exact ⟨0, g, by simp, rfl, rfl, by omega, rfl⟩
          case round =>
            obtain ⟨j, g2, rfl, rfl, rfl, hj, hJ⟩ := hrel
            by_cases hjn : j < 1
            · have haj : at1 + j < ks.length := by rw [Hks.out]; have := Hnn.out; omega
              have hdj : ((ks.drop at1).drop j).take (1 - j) = ks[at1 + j] :: ((ks.drop at1).drop (j + 1)).take (1 - (j + 1)) := by
                rw [List.drop_drop, List.drop_eq_getElem_cons haj, show 1 - j = (1 - (j + 1)) + 1 by omega, List.take_succ_cons, List.drop_drop]
                rfl
              have hJ2 := hJ.out
              rw [hdj, List.all_cons] at hJ2
              obtain ⟨k0, k36, b, o, bq, oq, kk, rfl, rfl, hb1, hb2, hkn, hq1, hq2⟩ := Hk.out (at1 + j) ks[at1 + j] (List.getElem?_eq_getElem haj)
              generalize ks[at1 + j] = kd at *
              have HJ := hid hJ2
              have a0 : (0 : Int) ≤ ((at1 + j : Nat) : Int) := by omega
              have a1 : ((at1 + j : Nat) : Int) < (m : Int) := by have := Hks.out; omega
              have a2 : (kk : Int) < (n : Int) := by omega
              have a3 : (j : Int) < (1 : Int) := by omega
              have a4 : ((at1 + j : Nat) : Int) ≤ 20000 := by omega
              have a5 : (0 : Int) ≤ (kk : Int) := by omega
              clear hJ hJ2 hdj haj
              generalize hA : at1 + j = A at *
              have HA := hid hA
              clear hA
              cases hg : isS kd c1 with
              | true =>
                go_wp2_with (first
                  | (go_at_call 180; ((with_reducible refine (good_any kd c1 k0 k36 hcl _).mono ?_)); rintro e w' ⟨rfl, hb⟩; obtain ⟨g3, rfl⟩ := bout hb; clear hb; rw [hg])
                  | (go_at_call 139; ((with_reducible refine (must_yes _).mono ?_)); rintro e w' ⟨rfl, hw⟩; rw [hw]; clear hw w'))
                exact ⟨⟨j + 1, _, by congr 1; have := HA.out; omega, by simp, rfl, by omega, by have := HJ.out; rw [hg, Bool.true_and] at this; exact this⟩, by simp [intOf]; omega⟩
              | false =>
                go_wp2_with (first
                  | (go_at_call 180; ((with_reducible refine (good_any kd c1 k0 k36 hcl _).mono ?_)); rintro e w' ⟨rfl, hb⟩; obtain ⟨g3, rfl⟩ := bout hb; clear hb; rw [hg])
                  | (go_at_call 139; ((with_reducible refine (must_no _).mono ?_)); rintro e w' ⟨rfl, hw⟩; rw [hw]; clear hw w'))
                have hRf : R = false := by
                  have h1 := HJ.out
                  rw [hg, Bool.false_and] at h1
                  rw [Hru.out, ← h1, Bool.false_and]
                exact ⟨rfl, by rw [hRf]; rfl, by repeat (first | exact Below.refl _ _ | refine bG ?_ _ | refine bI ?_ _ _ | refine bA ?_ _ | refine bD ?_ | refine bN ?_ _)⟩
            · obtain rfl : j = 1 := by omega
              have hJ2 := hJ.out
              rw [show 1 - 1 = 0 by omega, List.take_zero, List.all_nil] at hJ2
              have hRu := Hru.out
              rw [← hJ2, Bool.true_and, List.drop_drop] at hRu
              have HRu := hid hRu
              have a3 : ¬ ((1 : Nat) : Int) < ((1 : Nat) : Int) := by omega
              clear hJ2 hJ hRu
              go_wp2
              refine ⟨⟨pos + 1, at1 + 1, g2, by simp, rfl, by omega, by have := Hnn.out; omega, HRu.out.symm, by have := Hnn.out; omega⟩, ?_⟩
              rw [iterPos_grow _ _ _ _ _ rfl, iterPos_grow _ _ _ _ _ rfl]; omega
    · have nx := next_at_end (P := Tryz.prog) f pos hlt
      have hd2 := hR.out.1
      rw [List.drop_eq_nil_of_le (by rw [Hfl.out]; omega)] at hd2
      have Hd2 := hid (show R = true from hd2.symm)
      clear hd2 hR
      go_wp2
      go_end0
      exact ⟨by rw [Hd2.out]; rfl, by repeat (first | exact Below.refl _ _ | refine bG ?_ _ | refine bI ?_ _ _ | refine bA ?_ _ | refine bD ?_ | refine bN ?_ _)⟩
end Go.Proofs.YtjchnliaglecoaaGreatDoor
