/- Whether kids are as their node's form wants them. Conditions: the kids stand. -/
import Derived.Test.YtjchnliaglecoaaGreatDoorFt
set_option linter.unusedVariables false
set_option linter.unusedSimpArgs false
namespace Go.Proofs.YtjchnliaglecoaaGreatDoor
open Go Go.RowKit
set_option linter.unusedVariables false
set_option linter.unusedSimpArgs false
/-- Whether kids of these kinds are as the form wants them. -/
def fitsF (f : List UInt8) (ks : List Nat) : Bool :=
  if f = [46] then ks.isEmpty else
  if ks.length < f.length - 2 * f.count 42 then false else
  if ks.length ≠ f.length - 2 * f.count 42 ∧ f.count 42 = 0 then false else runF (ks.length - (f.length - 2 * f.count 42)) f ks
theorem fits_lt (w : World) (p q : Option Addr) (n c m d : Nat) (f : ByteArray) (hf : f.size ≤ 10) (hm : (m : Int) ≤ 20000) (F : Nat) (hlt : (m : Int) - (F : Int) < 0) (hne : (f.toList == []) = false) (hd : (f.toList == [46]) = false)
    (st : Nat) (hst : (st : Int) ≤ 5) (hfs : (f.size : Int) - 2 * (st : Int) = (F : Int)) (hc : ∀ w, Calls Tryz.prog 179 #[.string f, .string ⟨#[42]⟩] w fun e w' => e = .returned (.int .i64 st) ∧ w' = w) :
    Calls Tryz.prog 140 #[.slice p n c, .slice q m d, .string f] w fun e w' => e = must_end false ∧ Below w.heap.size w w' := by
  have Hc := hid hc
  have hne2 : f.toList.isEmpty = false := by cases e : f.toList with
    | nil => rw [e] at hne; cases hne
    | cons x l => rfl
  clear hc
  go_enter Tryz.func140, Tryz.ntmps140
  go_wp2_with (first
    | (go_at_call 139; ((with_reducible refine (must_yes _).mono ?_)); rintro e w' ⟨rfl, hw⟩; rw [hw]; clear hw w')
    | (go_at_call 139; ((with_reducible refine (must_no _).mono ?_)); rintro e w' ⟨rfl, hw⟩; rw [hw]; clear hw w')
    | (go_at_call 179; refine (Hc.out _).mono ?_; rintro e w' ⟨rfl, hw⟩; rw [hw]; clear hw w'))
  exact ⟨rfl, rfl, Below.refl _ _⟩
theorem fits_no (w : World) (p q : Option Addr) (n c m d : Nat) (f : ByteArray) (hf : f.size ≤ 10) (hm : (m : Int) ≤ 20000) (F sp : Nat) (hsp : (m : Int) - (F : Int) = (sp : Int)) (hsp0 : ((sp : Int) == 0) = false) (hne : (f.toList == []) = false) (hd : (f.toList == [46]) = false)
    (hfs : (f.size : Int) = (F : Int)) (hc : ∀ w, Calls Tryz.prog 179 #[.string f, .string ⟨#[42]⟩] w fun e w' => e = .returned (.int .i64 0) ∧ w' = w) :
    Calls Tryz.prog 140 #[.slice p n c, .slice q m d, .string f] w fun e w' => e = must_end false ∧ Below w.heap.size w w' := by
  have Hc := hid hc
  have hne2 : f.toList.isEmpty = false := by cases e : f.toList with
    | nil => rw [e] at hne; cases hne
    | cons x l => rfl
  clear hc
  go_enter Tryz.func140, Tryz.ntmps140
  go_wp2_with (first
    | (go_at_call 139; ((with_reducible refine (must_yes _).mono ?_)); rintro e w' ⟨rfl, hw⟩; rw [hw]; clear hw w')
    | (go_at_call 139; ((with_reducible refine (must_no _).mono ?_)); rintro e w' ⟨rfl, hw⟩; rw [hw]; clear hw w')
    | (go_at_call 179; refine (Hc.out _).mono ?_; rintro e w' ⟨rfl, hw⟩; rw [hw]; clear hw w'))
  exact ⟨rfl, rfl, Below.refl _ _⟩
theorem fits_dot1 (w : World) (p q : Option Addr) (n c m d : Nat) (f : ByteArray) (hf : f.size ≤ 10) (hm : (m : Int) ≤ 20000) (hm0 : ((m : Int) == 0) = false) (hne : (f.toList == []) = false) (hd : (f.toList == [46]) = true)
    (hc : ∀ w, Calls Tryz.prog 179 #[.string f, .string ⟨#[42]⟩] w fun e w' => e = .returned (.int .i64 0) ∧ w' = w) :
    Calls Tryz.prog 140 #[.slice p n c, .slice q m d, .string f] w fun e w' => e = must_end false ∧ Below w.heap.size w w' := by
  have Hc := hid hc
  have hne2 : f.toList.isEmpty = false := by cases e : f.toList with
    | nil => rw [e] at hne; cases hne
    | cons x l => rfl
  clear hc
  go_enter Tryz.func140, Tryz.ntmps140
  go_wp2_with (first
    | (go_at_call 139; ((with_reducible refine (must_yes _).mono ?_)); rintro e w' ⟨rfl, hw⟩; rw [hw]; clear hw w')
    | (go_at_call 139; ((with_reducible refine (must_no _).mono ?_)); rintro e w' ⟨rfl, hw⟩; rw [hw]; clear hw w')
    | (go_at_call 179; refine (Hc.out _).mono ?_; rintro e w' ⟨rfl, hw⟩; rw [hw]; clear hw w'))
  exact ⟨rfl, rfl, Below.refl _ _⟩
set_option maxRecDepth 10000 in
theorem fits_dot0 (w : World) (p q : Option Addr) (n c d : Nat) (hc : ∀ w, Calls Tryz.prog 179 #[.string ⟨#[46]⟩, .string ⟨#[42]⟩] w fun e w' => e = .returned (.int .i64 0) ∧ w' = w) :
    Calls Tryz.prog 140 #[.slice p n c, .slice q 0 d, .string ⟨#[46]⟩] w fun e w' => e = must_end true ∧ Below w.heap.size w w' := by
  have Hc := hid hc
  have nx := next_new_q (P := Tryz.prog) ⟨#[46]⟩ 0 46 1 (by decide) (by decide +kernel) (by omega)
  have ne := next_new_end (P := Tryz.prog) ⟨#[46]⟩ 1 (by decide)
  clear hc
  go_enter Tryz.func140, Tryz.ntmps140
  go_wp2_with (first
    | (go_at_call 139; ((with_reducible refine (must_yes _).mono ?_)); rintro e w' ⟨rfl, hw⟩; rw [hw]; clear hw w')
    | (go_at_call 179; refine (Hc.out _).mono ?_; rintro e w' ⟨rfl, hw⟩; rw [hw]; clear hw w'))
  refine wp_loop_rounds 2 ?_
  rw [rounds_succ]
  go_wp2
  rw [rounds_succ]
  go_wp2
  go_end0
  exact ⟨rfl, by repeat (first | exact Below.refl _ _ | refine bG ?_ _ | refine bI ?_ _ _ | refine bA ?_ _)⟩
end Go.Proofs.YtjchnliaglecoaaGreatDoor

/- tree.fits, of each kind's form. Conditions: the kids stand. -/
namespace Go.Proofs.YtjchnliaglecoaaGreatDoor
open Go Go.RowKit
set_option linter.unusedVariables false
set_option linter.unusedSimpArgs false
def formsT : List (List UInt8) := formsL.tail
theorem forms_need : ∀ f ∈ formsT, f = [46] ∨ ∀ sp, needF sp f = (f.length - 2 * f.count 42) + f.count 42 * sp := by
  intro f hf
  simp only [formsT, formsL, List.tail_cons, List.mem_cons, List.not_mem_nil, or_false] at hf
  rcases hf with rfl | rfl | rfl | rfl | rfl | rfl | rfl | rfl | rfl | rfl | rfl | rfl | rfl | rfl | rfl | rfl | rfl | rfl | rfl | rfl | rfl | rfl | rfl | rfl | rfl | rfl | rfl | rfl | rfl | rfl | rfl | rfl | rfl | rfl | rfl | rfl
  all_goals first
    | (left; rfl)
    | (right; intro sp; simp [needF]; done)
    | (right; intro sp; simp [needF, List.count_cons]; omega)
theorem forms_ok : (formsT.all fun f => !f.isEmpty && decide (f.length ≤ 10) && decide (2 * f.count 42 ≤ f.length) && decide (f.count 42 ≤ 1) && f.all (fun x => letters.contains x.toNat || decide (x = 42) || decide (x = 46)) && (decide (f = [46]) || decide (f.count 46 = 0))) = true := by decide +kernel
theorem fits_any (w : World) (p q : Option Addr) (n c m d : Nat) (f : List UInt8) (hmem : f ∈ formsT) (hm : m ≤ 20000) (hn : n ≤ 5000) (ks : List Nat) (hks : ks.length = m) (hk : KidsAt w p q n ks) :
    Calls Tryz.prog 140 #[.slice p n c, .slice q m d, str f] w fun e w' => e = must_end (fitsF f ks) ∧ Below w.heap.size w w' := by
  have hok := List.all_eq_true.1 forms_ok f hmem
  simp only [Bool.and_eq_true, Bool.not_eq_true', decide_eq_true_eq] at hok
  obtain ⟨⟨⟨⟨⟨o1, o2⟩, o3⟩, o4⟩, o5⟩, o6⟩ := hok
  have hd1 : (⟨f.toArray⟩ : ByteArray).data.toList = f := by simp
  have hd2 : (⟨f.toArray⟩ : ByteArray).toList = f := by rw [ByteArray.toList_eq]
  have hsz : (⟨f.toArray⟩ : ByteArray).size = f.length := by simp [ByteArray.size]
  have hne : ((⟨f.toArray⟩ : ByteArray).toList == []) = false := by
    rw [hd2]
    cases f with
    | nil => cases o1
    | cons x l => rfl
  have hc : ∀ w, Calls Tryz.prog 179 #[.string ⟨f.toArray⟩, .string ⟨#[42]⟩] w fun e w' => e = .returned (.int .i64 (f.count 42 : Nat)) ∧ w' = w := fun w => by
    have := Tryz.strings_Count_one ⟨f.toArray⟩ 42 w
    rw [hd1] at this
    exact this
  show Calls Tryz.prog 140 #[.slice p n c, .slice q m d, .string ⟨f.toArray⟩] w _
  by_cases hdot : f = [46]
  · subst hdot
    have e : fitsF [46] ks = ks.isEmpty := by unfold fitsF; rw [if_pos rfl]
    rw [e]
    have hc0 : ∀ w, Calls Tryz.prog 179 #[.string ⟨#[46]⟩, .string ⟨#[42]⟩] w fun e w' => e = .returned (.int .i64 0) ∧ w' = w := hc
    cases ks with
    | nil =>
      simp only [List.length_nil] at hks
      subst hks
      exact fits_dot0 w p q n c d hc0
    | cons x l =>
      have h0 : ((m : Int) == 0) = false := by
        cases e : ((m : Int) == 0) with
        | false => rfl
        | true => have := eq_of_beq e; simp at hks; omega
      exact fits_dot1 w p q n c m d ⟨#[46]⟩ (by decide) (by omega) h0 (by decide +kernel) (by decide +kernel) hc0
  · have hd : ((⟨f.toArray⟩ : ByteArray).toList == [46]) = false := by
      rw [hd2]
      cases e : f == [46] with
      | false => rfl
      | true => exact absurd (eq_of_beq e) hdot
    have hneed : ∀ sp, needF sp f = (f.length - 2 * f.count 42) + f.count 42 * sp := by
      rcases forms_need f hmem with h | h
      · exact absurd h hdot
      · exact h
    unfold fitsF
    rw [if_neg hdot]
    obtain ⟨F, hF⟩ : ∃ F, F = f.length - 2 * f.count 42 := ⟨_, rfl⟩
    rw [← hF]
    rw [← hF] at hneed
    by_cases h1 : ks.length < F
    · rw [if_pos h1]
      exact fits_lt w p q n c m d _ (by rw [hsz]; exact o2) (by omega) F (by omega) hne hd (f.count 42) (by omega) (by rw [hsz]; omega) hc
    · rw [if_neg h1]
      by_cases h2 : ks.length ≠ F ∧ f.count 42 = 0
      · rw [if_pos h2]
        have hc0 := hc
        rw [h2.2] at hc0
        refine fits_no w p q n c m d _ (by rw [hsz]; exact o2) (by omega) F (m - F) (by omega) ?_ hne hd (by rw [hsz]; omega) hc0
        cases e : (((m - F : Nat) : Int) == 0) with
        | false => rfl
        | true => have := eq_of_beq e; omega
      · rw [if_neg h2, hks]
        have hlet : ∀ x ∈ (⟨f.toArray⟩ : ByteArray).data.toList, x.toNat ∈ letters ∨ x = 42 ∨ x = 46 := fun x hx => by
          rw [hd1] at hx
          have := List.all_eq_true.1 o5 x hx
          simp only [Bool.or_eq_true, decide_eq_true_eq] at this
          rcases this with (h | h) | h
          · exact .inl (by simpa using h)
          · exact .inr (.inl h)
          · exact .inr (.inr h)
        have hnd : needF (m - F) (⟨f.toArray⟩ : ByteArray).data.toList ≤ m := by
          rw [hd1, hneed]
          rcases Nat.le_one_iff_eq_zero_or_eq_one.1 o4 with h | h
          · rw [h]; omega
          · rw [h]; omega
        by_cases h3 : m - F = 0
        · exact fits_loop0 w p q n c m d _ (by rw [hsz]; exact o2) hm hn ks hks hk F (m - F) (by omega) hne hd (f.count 42) (by omega) (by rw [hsz]; omega) h3 hc hlet hnd _ (by rw [hd1])
        · refine fits_loop1 w p q n c m d _ (by rw [hsz]; exact o2) hm hn ks hks hk F (m - F) (by omega) hne hd (f.count 42) (by omega) (by rw [hsz]; omega) ?_ (by omega) ?_ hc hlet hnd _ (by rw [hd1])
          · cases e : (((m - F : Nat) : Int) == 0) with
            | false => rfl
            | true => have := eq_of_beq e; omega
          · have : f.count 42 ≠ 0 := fun h => h2 ⟨by omega, h⟩
            omega
end Go.Proofs.YtjchnliaglecoaaGreatDoor

/- The reference's kids, walked. Conditions: kinds of nodes. -/
namespace Go.Proofs.YtjchnliaglecoaaGreatDoor
open Go Go.RowKit Go.Nodes
set_option linter.unusedVariables false
set_option linter.unusedSimpArgs false
/-- What letter a kid stands under. -/
def wantR (a o b : List UInt8) (more i : Nat) : UInt8 := if i < a.length then a.getD i 0 else if i < a.length + more then o.getD 0 0 else b.getD (i - a.length - more) 0
def allR (a o b : List UInt8) (more : Nat) : List Nat → Nat → Bool
  | [], _ => true
  | k :: l, i => isS k (wantR a o b more i).toNat && allR a o b more l (i + 1)
theorem allR_drop (a o b : List UInt8) (more : Nat) (ks : List Nat) (i : Nat) (hi : i < ks.length) : allR a o b more (ks.drop i) i = (isS ks[i] (wantR a o b more i).toNat && allR a o b more (ks.drop (i + 1)) (i + 1)) := by
  rw [List.drop_eq_getElem_cons hi]; rfl
set_option maxRecDepth 10000 in
set_option maxHeartbeats 4000000 in
theorem kids_loop0 (w : World) (kv : Int) (q : Option Addr) (m d : Nat) (ks : List Nat) (hks : ks.length = m) (hm : (m : Int) ≤ 20000) (hk : IntsAt w q (ks.map Int.ofNat)) (hkind : ∀ k ∈ ks, 0 < k ∧ k < 37)
    (A O B : ByteArray) (hA : (A.size : Int) ≤ 10) (hO : (O.size : Int) ≤ 10) (hB : (B.size : Int) ≤ 10) (hsh : ∀ w, Calls Tryz.prog 112 #[.int .i64 kv] w fun e w' => e = .returned (.tuple #[.string A, .string O, .string B, .bool true]) ∧ Below w.heap.size w w')
    (more : Nat) (hmore : (m : Int) - (A.size : Int) - (B.size : Int) = (more : Int)) (hmz : (more : Int) = 0)
    (hlet : ∀ x, x ∈ A.data.toList ∨ x ∈ O.data.toList ∨ x ∈ B.data.toList → x.toNat ∈ letters) :
    Calls Tryz.prog 64 #[.int .i64 kv, .slice q m d] w fun e w' => e = .returned (.bool (allR A.data.toList O.data.toList B.data.toList more ks 0)) ∧ Below w.heap.size w w' := by
  have Hsh := hid hsh
  have Hk := hid hk
  have Hks := hid hks
  have Hkind := hid hkind
  have Hlet := hid hlet
  have hm3 : (more : Int) ≤ 20000 := by omega
  have hm0 : decide ((more : Int) < 0) = false := decide_eq_false (by omega)
  have hAl : A.data.toList.length = A.size := by simp
  have hOl : O.data.toList.length = O.size := by simp
  have hBl : B.data.toList.length = B.size := by simp
  have HAl := hid hAl
  have HOl := hid hOl
  have HBl := hid hBl
  have hsum : (m : Int) = (A.size : Int) + (more : Int) + (B.size : Int) := by omega
  have Hsum := hid hsum
  clear hsh hk hks hkind hlet hAl hOl hBl hsum
  go_enter Tryz.func64, Tryz.ntmps64
  go_wp2_with (first
    | (go_at_call 112; ((with_reducible refine (Hsh.out _).mono ?_)); rintro e w' ⟨rfl, hb⟩; obtain ⟨g0, rfl⟩ := bout hb; clear hb))
  go_loopw [10] (fun iv wr => ∃ (i : Nat) (g : Gro), iv = .int .i64 i ∧ wr = grow w g ∧ i ≤ m ∧ Hid (allR A.data.toList O.data.toList B.data.toList more (ks.drop i) i = allR A.data.toList O.data.toList B.data.toList more ks 0)) (fun iv _ => m - (intOf iv).toNat)
  case atStart => exact ⟨0, _, rfl, rfl, by omega, rfl⟩
  case round =>
    obtain ⟨i, g, rfl, rfl, hi, hR⟩ := hrel
    by_cases hlt : i < m
    · have hil : i < ks.length := by rw [Hks.out]; exact hlt
      have hd := allR_drop A.data.toList O.data.toList B.data.toList more ks i hil
      rw [hR.out] at hd
      rcases Hk.out with hk | ⟨b, o, rfl, hb, hcell⟩
      · rw [List.map_eq_nil_iff] at hk; rw [hk] at hil; simp at hil
      have hc := hcell i (by simpa using hil)
      rw [List.getElem_map] at hc
      obtain ⟨k0, k36⟩ := Hkind.out ks[i] (List.getElem_mem hil)
      generalize ks[i] = kd at *
      have hc2 : w.cell? ⟨b, o + i, none⟩ = some (.int .i64 (kd : Int)) := hc
      have i0 : (0 : Int) ≤ (i : Int) := by omega
      have i1 : (i : Int) < (m : Int) := by omega
      clear hcell hc hR
      by_cases hA1 : i < A.size
      · have w1 : (i : Int) < (A.size : Int) := by omega
        have hpl : i < A.data.toList.length := by rw [HAl.out]; exact hA1
        have hw : wantR A.data.toList O.data.toList B.data.toList more i = A[i] := by
          unfold wantR
          rw [if_pos hpl, List.getD, List.getElem?_eq_getElem hpl]
          simp [ByteArray.getElem_eq_getElem_data]
        have hl : (A[i]).toNat ∈ letters := Hlet.out _ (.inl (by
          have : A[i] = A.data.toList[i] := by simp [ByteArray.getElem_eq_getElem_data]
          rw [this]; exact List.getElem_mem hpl))
        rw [hw] at hd
        obtain ⟨cc, hcc⟩ : ∃ cc, (A[i]).toNat = cc := ⟨_, rfl⟩
        rw [hcc] at hl hd
        have Hd := hid hd
        clear hd hw
        cases hg : isS kd cc with
        | true =>
          go_wp2_with (go_at_call 113; ((with_reducible refine (is_any kd cc k0 k36 hl _).mono ?_)); rintro e w' ⟨rfl, hb⟩; obtain ⟨g3, rfl⟩ := bout hb; clear hb; rw [hg])
          exact ⟨⟨i + 1, _, by congr 1, rfl, by omega, by have := Hd.out; rw [hg, Bool.true_and] at this; exact this.symm⟩, by simp [intOf]; omega⟩
        | false =>
          go_wp2_with (go_at_call 113; ((with_reducible refine (is_any kd cc k0 k36 hl _).mono ?_)); rintro e w' ⟨rfl, hb⟩; obtain ⟨g3, rfl⟩ := bout hb; clear hb; rw [hg])
          go_ret
          exact ⟨by rw [Hd.out, hg]; rfl, by repeat (first | exact Below.refl _ _ | refine bG ?_ _ | refine bI ?_ _ _ | refine bA ?_ _ | refine bD ?_ | refine bN ?_ _)⟩
      · have w1 : ¬ (i : Int) < (A.size : Int) := by omega
        by_cases hA2 : i < A.size + more
        · have w2 : (i : Int) < (A.size : Int) + (more : Int) := by omega
          omega
        · have w2 : ¬ (i : Int) < (A.size : Int) + (more : Int) := by omega
          have hAm : (A.size : Int) + (more : Int) ≤ 20010 := by omega
          have hbi : i - A.size - more < B.size := by have := Hsum.out; omega
          have hpl : i - A.size - more < B.data.toList.length := by rw [HBl.out]; exact hbi
          have hw : wantR A.data.toList O.data.toList B.data.toList more i = B[i - A.size - more] := by
            unfold wantR
            rw [HAl.out, if_neg hA1, if_neg hA2, List.getD, List.getElem?_eq_getElem hpl]
            simp [ByteArray.getElem_eq_getElem_data]
          have hl : (B[i - A.size - more]).toNat ∈ letters := Hlet.out _ (.inr (.inr (by
            have : B[i - A.size - more] = B.data.toList[i - A.size - more] := by simp [ByteArray.getElem_eq_getElem_data]
            rw [this]; exact List.getElem_mem hpl)))
          rw [hw] at hd
          have e3 : (i : Int) - (A.size : Int) - (more : Int) = ((i - A.size - more : Nat) : Int) := by omega
          have e3b : (i : Int) - (A.size : Int) = ((i - A.size - more : Nat) : Int) := by omega
          have e4 : (0 : Int) ≤ ((i - A.size - more : Nat) : Int) := by omega
          have e5 : ((i - A.size - more : Nat) : Int) < (B.size : Int) := by omega
          have e6 : (A.size : Int) ≤ (i : Int) := by omega
          have e7 : (A.size : Int) + (more : Int) ≤ (i : Int) := by omega
          generalize i - A.size - more = bi at *
          obtain ⟨cc, hcc⟩ : ∃ cc, (B[bi]).toNat = cc := ⟨_, rfl⟩
          rw [hcc] at hl hd
          have Hd := hid hd
          clear hd hw
          cases hg : isS kd cc with
          | true =>
            go_wp2_with (go_at_call 113; ((with_reducible refine (is_any kd cc k0 k36 hl _).mono ?_)); rintro e w' ⟨rfl, hb⟩; obtain ⟨g3, rfl⟩ := bout hb; clear hb; rw [hg])
            exact ⟨⟨i + 1, _, by congr 1, rfl, by omega, by have := Hd.out; rw [hg, Bool.true_and] at this; exact this.symm⟩, by simp [intOf]; omega⟩
          | false =>
            go_wp2_with (go_at_call 113; ((with_reducible refine (is_any kd cc k0 k36 hl _).mono ?_)); rintro e w' ⟨rfl, hb⟩; obtain ⟨g3, rfl⟩ := bout hb; clear hb; rw [hg])
            go_ret
            exact ⟨by rw [Hd.out, hg]; rfl, by repeat (first | exact Below.refl _ _ | refine bG ?_ _ | refine bI ?_ _ _ | refine bA ?_ _ | refine bD ?_ | refine bN ?_ _)⟩
    · have hd := hR.out
      rw [List.drop_eq_nil_of_le (by rw [Hks.out]; omega)] at hd
      have Hd := hid (show allR A.data.toList O.data.toList B.data.toList more ks 0 = true from hd.symm)
      have i1 : ¬ (i : Int) < (m : Int) := by omega
      clear hd hR
      go_wp2
      go_ret
      exact ⟨by rw [Hd.out]; rfl, by repeat (first | exact Below.refl _ _ | refine bG ?_ _ | refine bI ?_ _ _ | refine bA ?_ _ | refine bD ?_ | refine bN ?_ _)⟩
set_option maxRecDepth 10000 in
set_option maxHeartbeats 4000000 in
theorem kids_loop1 (w : World) (kv : Int) (q : Option Addr) (m d : Nat) (ks : List Nat) (hks : ks.length = m) (hm : (m : Int) ≤ 20000) (hk : IntsAt w q (ks.map Int.ofNat)) (hkind : ∀ k ∈ ks, 0 < k ∧ k < 37)
    (A O B : ByteArray) (hA : (A.size : Int) ≤ 10) (hO : (O.size : Int) ≤ 10) (hB : (B.size : Int) ≤ 10) (hsh : ∀ w, Calls Tryz.prog 112 #[.int .i64 kv] w fun e w' => e = .returned (.tuple #[.string A, .string O, .string B, .bool true]) ∧ Below w.heap.size w w')
    (more : Nat) (hmore : (m : Int) - (A.size : Int) - (B.size : Int) = (more : Int)) (hmp : (0 : Int) < (more : Int)) (hO1 : (1 : Int) ≤ (O.size : Int))
    (hlet : ∀ x, x ∈ A.data.toList ∨ x ∈ O.data.toList ∨ x ∈ B.data.toList → x.toNat ∈ letters) :
    Calls Tryz.prog 64 #[.int .i64 kv, .slice q m d] w fun e w' => e = .returned (.bool (allR A.data.toList O.data.toList B.data.toList more ks 0)) ∧ Below w.heap.size w w' := by
  have Hsh := hid hsh
  have Hk := hid hk
  have Hks := hid hks
  have Hkind := hid hkind
  have Hlet := hid hlet
  have hm3 : (more : Int) ≤ 20000 := by omega
  have hm0 : decide ((more : Int) < 0) = false := decide_eq_false (by omega)
  have hAl : A.data.toList.length = A.size := by simp
  have hOl : O.data.toList.length = O.size := by simp
  have hBl : B.data.toList.length = B.size := by simp
  have HAl := hid hAl
  have HOl := hid hOl
  have HBl := hid hBl
  have hsum : (m : Int) = (A.size : Int) + (more : Int) + (B.size : Int) := by omega
  have Hsum := hid hsum
  have hO2 : O.toList.isEmpty = false := by
    rw [ByteArray.toList_eq]
    cases e : O.data.toList with
    | nil => rw [e] at hOl; simp at hOl; omega
    | cons x l => rfl
  have hmn : 0 < more := by omega
  clear hsh hk hks hkind hlet hAl hOl hBl hsum
  go_enter Tryz.func64, Tryz.ntmps64
  go_wp2_with (first
    | (go_at_call 112; ((with_reducible refine (Hsh.out _).mono ?_)); rintro e w' ⟨rfl, hb⟩; obtain ⟨g0, rfl⟩ := bout hb; clear hb))
  go_loopw [10] (fun iv wr => ∃ (i : Nat) (g : Gro), iv = .int .i64 i ∧ wr = grow w g ∧ i ≤ m ∧ Hid (allR A.data.toList O.data.toList B.data.toList more (ks.drop i) i = allR A.data.toList O.data.toList B.data.toList more ks 0)) (fun iv _ => m - (intOf iv).toNat)
  case atStart => exact ⟨0, _, rfl, rfl, by omega, rfl⟩
  case round =>
    obtain ⟨i, g, rfl, rfl, hi, hR⟩ := hrel
    by_cases hlt : i < m
    · have hil : i < ks.length := by rw [Hks.out]; exact hlt
      have hd := allR_drop A.data.toList O.data.toList B.data.toList more ks i hil
      rw [hR.out] at hd
      rcases Hk.out with hk | ⟨b, o, rfl, hb, hcell⟩
      · rw [List.map_eq_nil_iff] at hk; rw [hk] at hil; simp at hil
      have hc := hcell i (by simpa using hil)
      rw [List.getElem_map] at hc
      obtain ⟨k0, k36⟩ := Hkind.out ks[i] (List.getElem_mem hil)
      generalize ks[i] = kd at *
      have hc2 : w.cell? ⟨b, o + i, none⟩ = some (.int .i64 (kd : Int)) := hc
      have i0 : (0 : Int) ≤ (i : Int) := by omega
      have i1 : (i : Int) < (m : Int) := by omega
      clear hcell hc hR
      by_cases hA1 : i < A.size
      · have w1 : (i : Int) < (A.size : Int) := by omega
        have hpl : i < A.data.toList.length := by rw [HAl.out]; exact hA1
        have hw : wantR A.data.toList O.data.toList B.data.toList more i = A[i] := by
          unfold wantR
          rw [if_pos hpl, List.getD, List.getElem?_eq_getElem hpl]
          simp [ByteArray.getElem_eq_getElem_data]
        have hl : (A[i]).toNat ∈ letters := Hlet.out _ (.inl (by
          have : A[i] = A.data.toList[i] := by simp [ByteArray.getElem_eq_getElem_data]
          rw [this]; exact List.getElem_mem hpl))
        rw [hw] at hd
        obtain ⟨cc, hcc⟩ : ∃ cc, (A[i]).toNat = cc := ⟨_, rfl⟩
        rw [hcc] at hl hd
        have Hd := hid hd
        clear hd hw
        cases hg : isS kd cc with
        | true =>
          go_wp2_with (go_at_call 113; ((with_reducible refine (is_any kd cc k0 k36 hl _).mono ?_)); rintro e w' ⟨rfl, hb⟩; obtain ⟨g3, rfl⟩ := bout hb; clear hb; rw [hg])
          exact ⟨⟨i + 1, _, by congr 1, rfl, by omega, by have := Hd.out; rw [hg, Bool.true_and] at this; exact this.symm⟩, by simp [intOf]; omega⟩
        | false =>
          go_wp2_with (go_at_call 113; ((with_reducible refine (is_any kd cc k0 k36 hl _).mono ?_)); rintro e w' ⟨rfl, hb⟩; obtain ⟨g3, rfl⟩ := bout hb; clear hb; rw [hg])
          go_ret
          exact ⟨by rw [Hd.out, hg]; rfl, by repeat (first | exact Below.refl _ _ | refine bG ?_ _ | refine bI ?_ _ _ | refine bA ?_ _ | refine bD ?_ | refine bN ?_ _)⟩
      · have w1 : ¬ (i : Int) < (A.size : Int) := by omega
        by_cases hA2 : i < A.size + more
        · have w2 : (i : Int) < (A.size : Int) + (more : Int) := by omega
          have hpl : 0 < O.data.toList.length := by rw [HOl.out]; omega
          have hO0 : 0 < O.size := by omega
          have hw : wantR A.data.toList O.data.toList B.data.toList more i = O[0] := by
            unfold wantR
            rw [HAl.out, if_neg hA1, if_pos hA2, List.getD, List.getElem?_eq_getElem hpl]
            simp [ByteArray.getElem_eq_getElem_data]
          have hl : (O[0]).toNat ∈ letters := Hlet.out _ (.inr (.inl (by
            have : O[0] = O.data.toList[0] := by simp [ByteArray.getElem_eq_getElem_data]
            rw [this]; exact List.getElem_mem hpl)))
          rw [hw] at hd
          have hAm : (A.size : Int) + (more : Int) ≤ 20010 := by omega
          obtain ⟨cc, hcc⟩ : ∃ cc, (O[0]).toNat = cc := ⟨_, rfl⟩
          rw [hcc] at hl hd
          have Hd := hid hd
          clear hd hw
          cases hg : isS kd cc with
          | true =>
            go_wp2_with (go_at_call 113; ((with_reducible refine (is_any kd cc k0 k36 hl _).mono ?_)); rintro e w' ⟨rfl, hb⟩; obtain ⟨g3, rfl⟩ := bout hb; clear hb; rw [hg])
            exact ⟨⟨i + 1, _, by congr 1, rfl, by omega, by have := Hd.out; rw [hg, Bool.true_and] at this; exact this.symm⟩, by simp [intOf]; omega⟩
          | false =>
            go_wp2_with (go_at_call 113; ((with_reducible refine (is_any kd cc k0 k36 hl _).mono ?_)); rintro e w' ⟨rfl, hb⟩; obtain ⟨g3, rfl⟩ := bout hb; clear hb; rw [hg])
            go_ret
            exact ⟨by rw [Hd.out, hg]; rfl, by repeat (first | exact Below.refl _ _ | refine bG ?_ _ | refine bI ?_ _ _ | refine bA ?_ _ | refine bD ?_ | refine bN ?_ _)⟩
        · have w2 : ¬ (i : Int) < (A.size : Int) + (more : Int) := by omega
          have hAm : (A.size : Int) + (more : Int) ≤ 20010 := by omega
          have hbi : i - A.size - more < B.size := by have := Hsum.out; omega
          have hpl : i - A.size - more < B.data.toList.length := by rw [HBl.out]; exact hbi
          have hw : wantR A.data.toList O.data.toList B.data.toList more i = B[i - A.size - more] := by
            unfold wantR
            rw [HAl.out, if_neg hA1, if_neg hA2, List.getD, List.getElem?_eq_getElem hpl]
            simp [ByteArray.getElem_eq_getElem_data]
          have hl : (B[i - A.size - more]).toNat ∈ letters := Hlet.out _ (.inr (.inr (by
            have : B[i - A.size - more] = B.data.toList[i - A.size - more] := by simp [ByteArray.getElem_eq_getElem_data]
            rw [this]; exact List.getElem_mem hpl)))
          rw [hw] at hd
          have e3 : (i : Int) - (A.size : Int) - (more : Int) = ((i - A.size - more : Nat) : Int) := by omega
          have e4 : (0 : Int) ≤ ((i - A.size - more : Nat) : Int) := by omega
          have e5 : ((i - A.size - more : Nat) : Int) < (B.size : Int) := by omega
          have e6 : (A.size : Int) ≤ (i : Int) := by omega
          have e7 : (A.size : Int) + (more : Int) ≤ (i : Int) := by omega
          generalize i - A.size - more = bi at *
          obtain ⟨cc, hcc⟩ : ∃ cc, (B[bi]).toNat = cc := ⟨_, rfl⟩
          rw [hcc] at hl hd
          have Hd := hid hd
          clear hd hw
          cases hg : isS kd cc with
          | true =>
            go_wp2_with (go_at_call 113; ((with_reducible refine (is_any kd cc k0 k36 hl _).mono ?_)); rintro e w' ⟨rfl, hb⟩; obtain ⟨g3, rfl⟩ := bout hb; clear hb; rw [hg])
            exact ⟨⟨i + 1, _, by congr 1, rfl, by omega, by have := Hd.out; rw [hg, Bool.true_and] at this; exact this.symm⟩, by simp [intOf]; omega⟩
          | false =>
            go_wp2_with (go_at_call 113; ((with_reducible refine (is_any kd cc k0 k36 hl _).mono ?_)); rintro e w' ⟨rfl, hb⟩; obtain ⟨g3, rfl⟩ := bout hb; clear hb; rw [hg])
            go_ret
            exact ⟨by rw [Hd.out, hg]; rfl, by repeat (first | exact Below.refl _ _ | refine bG ?_ _ | refine bI ?_ _ _ | refine bA ?_ _ | refine bD ?_ | refine bN ?_ _)⟩
    · have hd := hR.out
      rw [List.drop_eq_nil_of_le (by rw [Hks.out]; omega)] at hd
      have Hd := hid (show allR A.data.toList O.data.toList B.data.toList more ks 0 = true from hd.symm)
      have i1 : ¬ (i : Int) < (m : Int) := by omega
      clear hd hR
      go_wp2
      go_ret
      exact ⟨by rw [Hd.out]; rfl, by repeat (first | exact Below.refl _ _ | refine bG ?_ _ | refine bI ?_ _ _ | refine bA ?_ _ | refine bD ?_ | refine bN ?_ _)⟩
end Go.Proofs.YtjchnliaglecoaaGreatDoor

/- Both look at kids alike. Conditions: none. -/
namespace Go.Proofs.YtjchnliaglecoaaGreatDoor
open Go Go.RowKit Go.Nodes
set_option linter.unusedVariables false
set_option linter.unusedSimpArgs false
def plainL (l : List UInt8) : Prop := ∀ x ∈ l, x ≠ 42 ∧ x ≠ 46
theorem runF_letter (sp : Nat) (c : UInt8) (f : List UInt8) (ks : List Nat) (h1 : c ≠ 42) (h2 : c ≠ 46) (h3 : f.head? ≠ some 42) : runF sp (c :: f) ks = ((ks.take 1).all (fun k => isS k c.toNat) && runF sp f (ks.drop 1)) := by
  show (if c = 42 ∨ c = 46 then _ else _) = _
  rw [if_neg (by simp [h1, h2]), if_neg h3]
theorem allR_tail (x : UInt8) (a o b : List UInt8) (more : Nat) : ∀ (l : List Nat) (i : Nat), allR (x :: a) o b more l (i + 1) = allR a o b more l i
  | [], _ => rfl
  | k :: l, i => by
    unfold allR
    rw [allR_tail x a o b more l (i + 1)]
    congr 3
    unfold wantR
    simp only [List.length_cons, Nat.add_lt_add_iff_right, List.getD_cons_succ]
    split
    · rfl
    · have e1 : (i + 1 < a.length + 1 + more) = (i < a.length + more) := by apply propext; omega
      have e2 : i + 1 - (a.length + 1) - more = i - a.length - more := by omega
      rw [e2]; simp only [e1]
theorem allR_more (o b : List UInt8) (more : Nat) : ∀ (l : List Nat) (i : Nat), allR [] o b (more + 1) l (i + 1) = allR [] o b more l i
  | [], _ => rfl
  | k :: l, i => by
    unfold allR
    rw [allR_more o b more l (i + 1)]
    congr 3
    unfold wantR
    simp only [List.length_nil, Nat.not_lt_zero, if_false, Nat.zero_add]
    have e1 : (i + 1 < more + 1) = (i < more) := by apply propext; omega
    have e2 : i + 1 - 0 - (more + 1) = i - 0 - more := by omega
    rw [e2]; simp only [e1]
theorem allR_behind (o : List UInt8) (x : UInt8) (b : List UInt8) : ∀ (l : List Nat) (i : Nat), allR [] o (x :: b) 0 l (i + 1) = allR [] o b 0 l i
  | [], _ => rfl
  | k :: l, i => by
    unfold allR
    rw [allR_behind o x b l (i + 1)]
    congr 3
theorem runB (sp : Nat) (o : List UInt8) : ∀ (b : List UInt8) (ks : List Nat), plainL b → ks.length = b.length → runF sp b ks = allR [] o b 0 ks 0
  | [], ks, _, h => by
    have : ks = [] := List.eq_nil_of_length_eq_zero h
    subst this; rfl
  | x :: b, [], _, h => by simp at h
  | x :: b, k :: ks, hb, h => by
    have hx := hb x List.mem_cons_self
    have hb' : plainL b := fun y hy => hb y (List.mem_cons_of_mem _ hy)
    rw [runF_letter sp x b _ hx.1 hx.2 (fun h3 => by
      cases b with
      | nil => cases h3
      | cons y b => exact (hb' y List.mem_cons_self).1 (by simpa using h3))]
    simp only [List.take_succ_cons, List.take_zero, List.all_cons, List.all_nil, Bool.and_true, List.drop_succ_cons, List.drop_zero]
    rw [runB sp o b ks hb' (by simpa using h)]
    show _ = (isS k (wantR [] o (x :: b) 0 0).toNat && allR [] o (x :: b) 0 ks (0 + 1))
    rw [allR_behind]
    rfl
theorem runM (sp0 : Nat) (o : UInt8) (b : List UInt8) (hb : plainL b) : ∀ (sp : Nat) (ks : List Nat), ks.length = sp + b.length → ((ks.take sp).all (fun k => isS k o.toNat) && runF sp0 b (ks.drop sp)) = allR [] [o] b sp ks 0
  | 0, ks, h => by
    rw [List.take_zero, List.all_nil, Bool.true_and, List.drop_zero]
    exact runB sp0 [o] b ks hb (by omega)
  | sp + 1, [], h => by simp at h; omega
  | sp + 1, k :: ks, h => by
    simp only [List.take_succ_cons, List.all_cons, List.drop_succ_cons]
    rw [Bool.and_assoc, runM sp0 o b hb sp ks (by simp at h; omega)]
    show _ = (isS k (wantR [] [o] b (sp + 1) 0).toNat && allR [] [o] b (sp + 1) ks (0 + 1))
    rw [allR_more]
    congr 2
theorem runA (sp : Nat) (o b rest : List UInt8) (more : Nat) (hr : rest.head? ≠ some 42) (hR : ∀ ks : List Nat, ks.length = more + b.length → runF sp rest ks = allR [] o b more ks 0) : ∀ (a : List UInt8) (ks : List Nat), plainL a → ks.length = a.length + more + b.length → runF sp (a ++ rest) ks = allR a o b more ks 0
  | [], ks, _, h => hR ks (by simpa using h)
  | x :: a, [], _, h => by simp at h; omega
  | x :: a, k :: ks, ha, h => by
    have hx := ha x List.mem_cons_self
    have ha' : plainL a := fun y hy => ha y (List.mem_cons_of_mem _ hy)
    rw [List.cons_append, runF_letter sp x _ _ hx.1 hx.2 (fun h3 => by
      cases a with
      | nil => exact hr (by simpa using h3)
      | cons y a => exact (ha' y List.mem_cons_self).1 (by simpa using h3))]
    simp only [List.take_succ_cons, List.take_zero, List.all_cons, List.all_nil, Bool.and_true, List.drop_succ_cons, List.drop_zero]
    rw [runA sp o b rest more hr hR a ks ha' (by simp at h; omega)]
    show _ = (isS k (wantR (x :: a) o b more 0).toNat && allR (x :: a) o b more ks (0 + 1))
    rw [allR_tail]
    rfl
/-- What the reference asks of kids. -/
def kidsR (a o b : List UInt8) (ks : List Nat) : Bool :=
  if ks.length < a.length + b.length then false else if ks.length ≠ a.length + b.length ∧ o = [] then false else allR a o b (ks.length - a.length - b.length) ks 0
theorem fits_fixed (a : List UInt8) (ha : plainL a) (hc : a.count 42 = 0) (hd : a ≠ [46]) (ks : List Nat) : fitsF a ks = kidsR a [] [] ks := by
  unfold fitsF kidsR
  rw [if_neg hd, hc]
  simp only [Nat.mul_zero, Nat.sub_zero, List.length_nil, Nat.add_zero, and_true]
  split
  · rfl
  · split
    · rfl
    · rename_i h1 h2
      have he : ks.length = a.length := by simpa using h2
      rw [he, Nat.sub_self]
      have := runA 0 [] [] [] 0 (by simp) (fun ks h => by have : ks = [] := List.eq_nil_of_length_eq_zero (by simpa using h); subst this; rfl) a ks ha (by simpa using he)
      rw [List.append_nil] at this
      exact this
theorem fits_star (a : List UInt8) (o : UInt8) (b : List UInt8) (ha : plainL a) (ho : o ≠ 42 ∧ o ≠ 46) (hb : plainL b) (hc : (a ++ o :: 42 :: b).count 42 = 1) (ks : List Nat) : fitsF (a ++ o :: 42 :: b) ks = kidsR a [o] b ks := by
  unfold fitsF kidsR
  have hl : (a ++ o :: 42 :: b).length - 2 * 1 = a.length + b.length := by simp; omega
  rw [if_neg (by intro h; have := congrArg List.length h; simp at this; omega), hc, hl]
  split
  · rfl
  · rename_i h1
    rw [if_neg (by simp), if_neg (by simp)]
    have e : ks.length - a.length - b.length = ks.length - (a.length + b.length) := by omega
    rw [e]
    refine runA _ [o] b (o :: 42 :: b) _ (by simp [ho.1]) (fun ks' h => ?_) a ks ha (by omega)
    show (if o = 42 ∨ o = 46 then _ else _) = _
    rw [if_neg (by simp [ho.1, ho.2])]
    rw [if_pos (show (42 :: b).head? = some 42 from rfl)]
    show (_ && (if (42 : UInt8) = 42 ∨ (42 : UInt8) = 46 then _ else _)) = _
    rw [if_pos (.inl rfl)]
    exact runM _ o b hb _ ks' h
theorem fits_dot (ks : List Nat) : fitsF [46] ks = kidsR [] [] [] ks := by
  unfold fitsF kidsR
  rw [if_pos rfl]
  cases ks with
  | nil => rfl
  | cons x l => simp
end Go.Proofs.YtjchnliaglecoaaGreatDoor

/- The reference's kids, of each kind; as tree's. Conditions: kinds of nodes. -/
namespace Go.Proofs.YtjchnliaglecoaaGreatDoor
open Go Go.RowKit Go.Nodes
set_option linter.unusedVariables false
set_option linter.unusedSimpArgs false
def plainB (l : List UInt8) : Bool := l.all fun x => decide (x ≠ 42) && decide (x ≠ 46)
theorem plainB_L {l : List UInt8} (h : plainB l = true) : plainL l := fun x hx => by
  have := List.all_eq_true.1 h x hx
  simpa using this
def formOf (k : Nat) : List UInt8 := formsL.getD k []
theorem shape_forms : ((List.range 37).all fun k => Nat.beq k 0 || ((shapeS k).2.2.2 && decide ((shapeS k).1.length ≤ 10) && decide ((shapeS k).2.1.length ≤ 1) && decide ((shapeS k).2.2.1.length ≤ 10) && decide (formOf k ∈ formsT) &&
    plainB (shapeS k).1 && plainB (shapeS k).2.1 && plainB (shapeS k).2.2.1 && ((shapeS k).1 ++ (shapeS k).2.1 ++ (shapeS k).2.2.1).all (fun x => letters.contains x.toNat) &&
    ((decide (formOf k = [46]) && (shapeS k).1.isEmpty && (shapeS k).2.1.isEmpty && (shapeS k).2.2.1.isEmpty) || (decide (formOf k = (shapeS k).1) && (shapeS k).2.1.isEmpty && (shapeS k).2.2.1.isEmpty && decide ((formOf k).count 42 = 0) && decide (formOf k ≠ [46])) ||
      (match (shapeS k).2.1 with | [o] => decide (formOf k = (shapeS k).1 ++ o :: 42 :: (shapeS k).2.2.1) && decide ((formOf k).count 42 = 1) | _ => false)))) = true := by decide +kernel
theorem shape_at {k : Nat} (h1 : 1 ≤ k) (h2 : k ≤ 36) : ∃ a o b, shapeS k = (a, o, b, true) ∧ a.length ≤ 10 ∧ o.length ≤ 1 ∧ b.length ≤ 10 ∧ formOf k ∈ formsT ∧ (∀ x, x ∈ a ∨ x ∈ o ∨ x ∈ b → x.toNat ∈ letters) ∧ ∀ ks, fitsF (formOf k) ks = kidsR a o b ks := by
  have h := List.all_eq_true.1 shape_forms k (List.mem_range.2 (by omega))
  rw [show Nat.beq k 0 = false by cases e : Nat.beq k 0 with
    | true => have := Nat.eq_of_beq_eq_true e; omega
    | false => rfl] at h
  generalize formOf k = f at *
  rcases hs : shapeS k with ⟨a, o, b, t⟩
  rw [hs] at h
  simp only [Bool.false_or, Bool.and_eq_true, decide_eq_true_eq] at h
  obtain ⟨⟨⟨⟨⟨⟨⟨⟨⟨rfl, l1⟩, l2⟩, l3⟩, hm⟩, p1⟩, p2⟩, p3⟩, hl⟩, hc⟩ := h
  refine ⟨a, o, b, rfl, l1, by omega, l3, hm, fun x hx => ?_, fun ks => ?_⟩
  · have : x ∈ a ++ o ++ b := by
      simp only [List.mem_append]
      rcases hx with h | h | h
      · exact .inl (.inl h)
      · exact .inl (.inr h)
      · exact .inr h
    simpa using List.all_eq_true.1 hl x this
  · rcases Bool.or_eq_true_iff.1 hc with hc | hc
    · rcases Bool.or_eq_true_iff.1 hc with hc | hc
      · simp only [Bool.and_eq_true, decide_eq_true_eq, List.isEmpty_iff] at hc
        obtain ⟨⟨⟨rfl, rfl⟩, rfl⟩, rfl⟩ := hc
        exact fits_dot ks
      · simp only [Bool.and_eq_true, decide_eq_true_eq, List.isEmpty_iff] at hc
        obtain ⟨⟨⟨⟨rfl, rfl⟩, rfl⟩, hc0⟩, hd⟩ := hc
        exact fits_fixed f (plainB_L p1) hc0 hd ks
    · split at hc
      · rename_i o' _
        simp only [Bool.and_eq_true, decide_eq_true_eq] at hc
        obtain ⟨rfl, hc1⟩ := hc
        exact fits_star a o' b (plainB_L p1) (plainB_L p2 o' (by simp)) (plainB_L p3) hc1 ks
      · cases hc
theorem kids_few (w : World) (kv : Int) (q : Option Addr) (m d : Nat) (hm : (m : Int) ≤ 20000) (A O B : ByteArray) (hA : (A.size : Int) ≤ 10) (hB : (B.size : Int) ≤ 10) (hlt : (m : Int) - (A.size : Int) - (B.size : Int) < 0)
    (hsh : ∀ w, Calls Tryz.prog 112 #[.int .i64 kv] w fun e w' => e = .returned (.tuple #[.string A, .string O, .string B, .bool true]) ∧ Below w.heap.size w w') :
    Calls Tryz.prog 64 #[.int .i64 kv, .slice q m d] w fun e w' => e = .returned (.bool false) ∧ Below w.heap.size w w' := by
  have Hsh := hid hsh
  clear hsh
  go_enter Tryz.func64, Tryz.ntmps64
  go_wp2_with (first
    | (go_at_call 112; ((with_reducible refine (Hsh.out _).mono ?_)); rintro e w' ⟨rfl, hb⟩; obtain ⟨g0, rfl⟩ := bout hb; clear hb))
  go_ret
  exact ⟨rfl, bG (Below.refl _ _) _⟩
theorem kids_over (w : World) (kv : Int) (q : Option Addr) (m d : Nat) (hm : (m : Int) ≤ 20000) (A O B : ByteArray) (hA : (A.size : Int) ≤ 10) (hB : (B.size : Int) ≤ 10) (more : Nat) (hmore : (m : Int) - (A.size : Int) - (B.size : Int) = (more : Int)) (hmp : (0 : Int) < (more : Int)) (hO : O.toList.isEmpty = true)
    (hsh : ∀ w, Calls Tryz.prog 112 #[.int .i64 kv] w fun e w' => e = .returned (.tuple #[.string A, .string O, .string B, .bool true]) ∧ Below w.heap.size w w') :
    Calls Tryz.prog 64 #[.int .i64 kv, .slice q m d] w fun e w' => e = .returned (.bool false) ∧ Below w.heap.size w w' := by
  have Hsh := hid hsh
  have hO2 : (O.toList == []) = true := by cases e : O.toList with
    | nil => rfl
    | cons x l => rw [e] at hO; cases hO
  have hmn : 0 < more := by omega
  clear hsh
  go_enter Tryz.func64, Tryz.ntmps64
  go_wp2_with (first
    | (go_at_call 112; ((with_reducible refine (Hsh.out _).mono ?_)); rintro e w' ⟨rfl, hb⟩; obtain ⟨g0, rfl⟩ := bout hb; clear hb))
  go_ret
  exact ⟨rfl, bG (Below.refl _ _) _⟩
theorem kids_none (w : World) (kv : Int) (hk : kv ≤ 0 ∨ 36 < kv) (q : Option Addr) (m d : Nat) (hm : (m : Int) ≤ 20000) :
    Calls Tryz.prog 64 #[.int .i64 kv, .slice q m d] w fun e w' => e = .returned (.bool false) ∧ Below w.heap.size w w' := by
  have Hsh : Hid (∀ w, Calls Tryz.prog 112 #[.int .i64 kv] w fun e w' => e = .returned (.tuple #[.string ⟨#[]⟩, .string ⟨#[]⟩, .string ⟨#[]⟩, .bool false]) ∧ Below w.heap.size w w') := hid fun w => by
    by_cases h0 : kv = 0
    · subst h0
      exact shape_in 0 (by omega) w
    · exact shape_out kv (by omega) w
  clear hk
  go_enter Tryz.func64, Tryz.ntmps64
  go_wp2_with (first
    | (go_at_call 112; ((with_reducible refine (Hsh.out _).mono ?_)); rintro e w' ⟨rfl, hb⟩; obtain ⟨g0, rfl⟩ := bout hb; clear hb))
  go_ret
  exact ⟨rfl, bG (Below.refl _ _) _⟩
theorem kids_any (w : World) (k : Nat) (h1 : 1 ≤ k) (h2 : k ≤ 36) (q : Option Addr) (m d : Nat) (hm : (m : Int) ≤ 20000) (ks : List Nat) (hks : ks.length = m) (hk : IntsAt w q (ks.map Int.ofNat)) (hkind : ∀ k ∈ ks, 0 < k ∧ k < 37) :
    Calls Tryz.prog 64 #[.int .i64 (k : Int), .slice q m d] w fun e w' => e = .returned (.bool (fitsF (formOf k) ks)) ∧ Below w.heap.size w w' := by
  obtain ⟨a, o, b, hs, l1, l2, l3, hm2, hlet, heq⟩ := shape_at h1 h2
  have hsh : ∀ w, Calls Tryz.prog 112 #[.int .i64 (k : Int)] w fun e w' => e = .returned (.tuple #[.string ⟨a.toArray⟩, .string ⟨o.toArray⟩, .string ⟨b.toArray⟩, .bool true]) ∧ Below w.heap.size w w' := fun w => by
    have := shape_in k (by omega) w
    unfold shapeV at this
    rw [hs] at this
    exact this
  have z : ∀ l : List UInt8, (⟨l.toArray⟩ : ByteArray).size = l.length := fun l => by simp [ByteArray.size]
  have dd : ∀ l : List UInt8, (⟨l.toArray⟩ : ByteArray).data.toList = l := fun l => by simp
  rw [heq]
  unfold kidsR
  by_cases c1 : ks.length < a.length + b.length
  · rw [if_pos c1]
    exact kids_few w k q m d hm _ _ _ (by rw [z]; omega) (by rw [z]; omega) (by rw [z, z]; omega) hsh
  · rw [if_neg c1]
    by_cases c2 : ks.length ≠ a.length + b.length ∧ o = []
    · rw [if_pos c2]
      obtain ⟨c3, rfl⟩ := c2
      exact kids_over w k q m d hm _ _ _ (by rw [z]; omega) (by rw [z]; omega) (m - a.length - b.length) (by rw [z, z]; omega) (by omega) (by rw [ByteArray.toList_eq]; rfl) hsh
    · rw [if_neg c2, hks]
      have hlet' : ∀ x, x ∈ (⟨a.toArray⟩ : ByteArray).data.toList ∨ x ∈ (⟨o.toArray⟩ : ByteArray).data.toList ∨ x ∈ (⟨b.toArray⟩ : ByteArray).data.toList → x.toNat ∈ letters := by
        simpa [dd] using hlet
      by_cases c4 : m - a.length - b.length = 0
      · have := kids_loop0 w k q m d ks hks hm hk hkind ⟨a.toArray⟩ ⟨o.toArray⟩ ⟨b.toArray⟩ (by rw [z]; omega) (by rw [z]; omega) (by rw [z]; omega) hsh (m - a.length - b.length) (by rw [z, z]; omega) (by omega) hlet'
        rwa [dd, dd, dd] at this
      · have ho : o ≠ [] := fun h => c2 ⟨by omega, h⟩
        have hol : 1 ≤ o.length := by cases o with
          | nil => exact absurd rfl ho
          | cons x l => simp
        have := kids_loop1 w k q m d ks hks hm hk hkind ⟨a.toArray⟩ ⟨o.toArray⟩ ⟨b.toArray⟩ (by rw [z]; omega) (by rw [z]; omega) (by rw [z]; omega) hsh (m - a.length - b.length) (by rw [z, z]; omega) (by omega) (by rw [z]; omega) hlet'
        rwa [dd, dd, dd] at this
end Go.Proofs.YtjchnliaglecoaaGreatDoor
