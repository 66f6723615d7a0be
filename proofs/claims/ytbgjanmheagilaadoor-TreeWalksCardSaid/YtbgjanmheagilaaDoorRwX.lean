/- The nodes in the order of a walk: what is reckoned. Conditions: the nodes are as Check takes them. -/
import Derived.Test.YtbgjanmheagilaaDoorCk
import Derived.WalkSmall
import Derived.Lib.OwnKind
import Derived.Deep.LoopGhost
set_option linter.unusedVariables false
set_option linter.unusedSimpArgs false
namespace Go.Proofs.YtbgjanmheagilaaDoor
open Go Go.RowKit Go.Nodes
set_option linter.unusedVariables false
set_option linter.unusedSimpArgs false
def kidsOf (ns : List Nd) (n : Int) : List Int := ((ns[n.toNat]?).map (fun x => x.kids)).getD []
/-- Each ahead of its kids, and how deep it stands. -/
def preF (ns : List Nd) : Nat → Int → Int → List (Int × Int)
  | 0, _, _ => []
  | f + 1, n, d => (n, d) :: (kidsOf ns n).flatMap fun k => preF ns f k (d + 1)
def pre (ns : List Nd) (n d : Int) : List (Int × Int) := preF ns (n.toNat + 1) n d
/-- Kids stand ahead. -/
def Ahead (ns : List Nd) : Prop := ∀ (n : Int), 0 ≤ n → ∀ k ∈ kidsOf ns n, 0 ≤ k ∧ k < n
theorem flatMap_congr' {α β : Type} {l : List α} {f g : α → List β} (h : ∀ x ∈ l, f x = g x) : l.flatMap f = l.flatMap g := by
  induction l with
  | nil => rfl
  | cons a l ih => rw [List.flatMap_cons, List.flatMap_cons, h a (by simp), ih fun x hx => h x (by simp [hx])]
theorem preF_stable {ns : List Nd} (ha : Ahead ns) : ∀ (f g : Nat) (n d : Int), 0 ≤ n → n < f → n < g → preF ns f n d = preF ns g n d
  | 0, _, n, _, h0, h1, _ => by omega
  | _ + 1, 0, n, _, h0, _, h1 => by omega
  | f + 1, g + 1, n, d, h0, h1, h2 => by
    unfold preF
    rw [flatMap_congr' fun k hk => ?_]
    have := ha n h0 k hk
    exact preF_stable ha f g k (d + 1) (by omega) (by omega) (by omega)
theorem pre_eq {ns : List Nd} (ha : Ahead ns) (n d : Int) (h0 : 0 ≤ n) : pre ns n d = (n, d) :: (kidsOf ns n).flatMap fun k => pre ns k (d + 1) := by
  unfold pre
  conv => lhs; unfold preF
  rw [flatMap_congr' fun k hk => ?_]
  have := ha n h0 k hk
  exact preF_stable ha _ _ k (d + 1) (by omega) (by omega) (by omega)
theorem preF_length (ns : List Nd) : ∀ (f : Nat) (n d e : Int), (preF ns f n d).length = (preF ns f n e).length
  | 0, _, _, _ => rfl
  | f + 1, n, d, e => by
    unfold preF
    simp only [List.length_cons, List.length_flatMap]
    congr 2
    exact List.map_congr_left fun k _ => preF_length ns f k _ _
def wt (ns : List Nd) (n : Nat) : Nat := (pre ns n 0).length
theorem pre_len (ns : List Nd) (n d : Int) (h : 0 ≤ n) : (pre ns n d).length = wt ns n.toNat := by
  unfold wt pre
  rw [Int.toNat_natCast, Int.toNat_of_nonneg h]
  exact preF_length ns _ n d 0
theorem wt_eq {ns : List Nd} (ha : Ahead ns) (n : Nat) : wt ns n = 1 + ((kidsOf ns n).map fun k => wt ns k.toNat).sum := by
  conv => lhs; unfold wt
  rw [pre_eq ha _ _ (by omega), List.length_cons, List.length_flatMap, Nat.add_comm]
  congr 2
  exact List.map_congr_left fun k hk => pre_len ns k _ (ha n (by omega) k hk).1
/-- What stands below those that are nobody's. -/
def sumU (f : Nat → Nat) (u : List Bool) : Nat → Nat
  | 0 => 0
  | m + 1 => sumU f u m + if u.getD m false then 0 else f m
theorem sumU_set_out (f : Nat → Nat) (u : List Bool) (k : Nat) : ∀ m, m ≤ k → sumU f (u.set k true) m = sumU f u m
  | 0, _ => rfl
  | m + 1, h => by
    unfold sumU
    rw [sumU_set_out f u k m (by omega)]
    congr 2
    simp [List.getD, List.getElem?_set_ne (show k ≠ m by omega)]
theorem sumU_set (f : Nat → Nat) (u : List Bool) (k : Nat) (hk : k < u.length) (hu : u.getD k false = false) : ∀ m, k < m → sumU f (u.set k true) m + f k = sumU f u m
  | 0, h => by omega
  | m + 1, h => by
    unfold sumU
    by_cases e : k = m
    · subst e
      rw [sumU_set_out f u k k (Nat.le_refl _), hu]
      simp [List.getD, hk]
    · have := sumU_set f u k hk hu m (by omega)
      have h2 : (u.set k true).getD m false = u.getD m false := by simp [List.getD, List.getElem?_set_ne e]
      rw [h2]
      omega
theorem kidsU_sum (f : Nat → Nat) (n : Nat) : ∀ (l : List Int) (u v : List Bool), n ≤ u.length → kidsU n l u = some v → sumU f v n + (l.map fun k => f k.toNat).sum = sumU f u n
  | [], u, v, _, h => by simp [kidsU] at h; subst h; simp
  | k :: l, u, v, hn, h => by
    unfold kidsU at h
    split at h
    · rename_i h2
      have h3 := kidsU_sum f n l _ _ (by simpa using hn) h
      have h4 := sumU_set f u k.toNat (by omega) h2.2.2 n (by omega)
      simp only [List.map_cons, List.sum_cons]
      omega
    · cases h
theorem kidsOf_nat {ns : List Nd} {n : Nat} {x : Nd} (h : ns[n]? = some x) : kidsOf ns n = x.kids := by simp [kidsOf, h]
/-- All was taken. -/
theorem scan_ahead (ns : List Nd) : ∀ (l : List Nd) (n : Nat) (u v : List Bool), ns.drop n = l → scanF ns l n u = (none, v) → ∀ (m : Nat) (x : Nd), n ≤ m → ns[m]? = some x → ∀ k ∈ x.kids, 0 ≤ k ∧ k < m
  | [], n, u, v, hd, h, m, x, hm, hx, k, hk => by
    have h1 := List.drop_eq_nil_iff.1 hd
    have h2 := (List.getElem?_eq_some_iff.1 hx).1
    omega
  | y :: l, n, u, v, hd, h, m, x, hm, hx, k, hk => by
    unfold scanF at h
    have hy : ns[n]? = some y := by rw [← List.head?_drop, hd]; rfl
    cases hku : kidsU n y.kids u with
    | none => rw [hku] at h; cases h
    | some u2 =>
      rw [hku] at h
      simp only at h
      split at h
      · by_cases e : m = n
        · subst e
          rw [hy] at hx; cases hx
          exact kidsU_in m _ _ _ hku k hk
        · exact scan_ahead ns l (n + 1) u2 v (by rw [← List.drop_drop, hd]; rfl) h m x (by omega) hx k hk
      · cases h
theorem scan_sum (ns : List Nd) (ha : Ahead ns) : ∀ (l : List Nd) (n : Nat) (u v : List Bool), ns.drop n = l → n ≤ ns.length → u.length = ns.length → sumU (wt ns) u n ≤ n → scanF ns l n u = (none, v) → sumU (wt ns) v ns.length ≤ ns.length
  | [], n, u, v, hd, hl2, hl, hs, h => by
    have h1 := List.drop_eq_nil_iff.1 hd
    cases h
    have hn2 : n = ns.length := Nat.le_antisymm hl2 h1
    rw [← hn2]; exact hs
  | y :: l, n, u, v, hd, hl2, hl, hs, h => by
    unfold scanF at h
    have hy : ns[n]? = some y := by rw [← List.head?_drop, hd]; rfl
    have hn : n < ns.length := (List.getElem?_eq_some_iff.1 hy).1
    cases hku : kidsU n y.kids u with
    | none => rw [hku] at h; cases h
    | some u2 =>
      rw [hku] at h
      simp only at h
      split at h
      · have h1 := kidsU_sum (wt ns) n y.kids u u2 (by omega) hku
        have h2 := wt_eq ha n
        rw [kidsOf_nat hy] at h2
        refine scan_sum ns ha l (n + 1) u2 v (by rw [← List.drop_drop, hd]; rfl) hn (by rw [kidsU_len n _ _ _ hku, hl]) ?_ h
        unfold sumU
        split <;> omega
      · cases h
/-- What Check has taken. -/
theorem taken {ns : List Nd} (h : (checkS ns).2 = 0) : Ahead ns ∧ 0 < ns.length ∧ wt ns (ns.length - 1) ≤ ns.length := by
  unfold checkS at h
  split at h
  · simp at h
  · rename_i v hs
    split at h
    · simp at h
    · rename_i h0
      split at h
      · rename_i hr
        have ha : Ahead ns := by
          intro n hn k hk
          obtain ⟨m, rfl⟩ : ∃ m : Nat, n = (m : Int) := ⟨n.toNat, by omega⟩
          cases hx : ns[m]? with
          | none => simp [kidsOf, hx] at hk
          | some x =>
            rw [kidsOf_nat hx] at hk
            exact scan_ahead ns ns 0 _ v rfl hs m x (Nat.zero_le _) hx k hk
        refine ⟨ha, by omega, ?_⟩
        have h2 := scan_sum ns ha ns 0 _ v rfl (Nat.zero_le _) (by simp) (by simp [sumU]) hs
        have h3 := List.all_eq_true.1 hr (ns.length - 1) (by simp; omega)
        simp only [Bool.and_eq_true, decide_eq_true_eq] at h3
        have h4 := h3.2
        rw [show ns.length - 1 + 1 = ns.length by omega] at h4
        simp only [ne_eq, not_true_eq_false, decide_false] at h4
        rw [show ns.length = (ns.length - 1) + 1 by omega] at h2
        unfold sumU at h2
        rw [h4] at h2
        simp at h2
        omega
      · simp at h
def walkS (ns : List Nd) : List (Int × Int) := if (checkS ns).2 = 0 then pre ns ((ns.length : Int) - 1) 0 else []
theorem walkS_len (ns : List Nd) : (walkS ns).length ≤ ns.length := by
  unfold walkS
  split
  · rename_i h
    obtain ⟨_, h2, h3⟩ := taken h
    rw [pre_len ns _ _ (by omega), show ((ns.length : Int) - 1).toNat = ns.length - 1 by omega]
    exact h3
  · simp
end Go.Proofs.YtbgjanmheagilaaDoor

/- Rows of ints, each in a block of its own. Conditions: none. -/
namespace Go.Proofs.YtbgjanmheagilaaDoor
open Go Go.RowKit Go.Nodes
set_option linter.unusedVariables false
set_option linter.unusedSimpArgs false
theorem Ints_grown {B : Nat} {w w' : World} {v : Value} {l : List Int} {row : Option Nat} (h : Ints B w v l) (hg : w.grownBy w' row) (hne : ∀ g, v.ownBlock = some g → row ≠ some g) : Ints B w' v l := by
  obtain ⟨h1, h2⟩ := h
  refine ⟨h1, ?_⟩
  rcases h2 with h2 | ⟨g, cap, cur, hv, hg', hh, hr⟩
  · exact Or.inl h2
  · exact Or.inr ⟨g, cap, cur, hv, hg', by rw [hg.block g (Array.getElem?_eq_some_iff.1 hh).1 (fun e => hne g (by rw [hv]; rfl) e.symm)]; exact hh, hr⟩
theorem Ints_lt {B : Nat} {w : World} {v : Value} {l : List Int} (h : Ints B w v l) : ∀ g, v.ownBlock = some g → g < w.heap.size := by
  intro g hg
  obtain ⟨c, fz, h2⟩ := Go.Lib.ownsRow_kind h g hg
  exact (Array.getElem?_eq_some_iff.1 h2).1
theorem Ints_ge {B : Nat} {w : World} {v : Value} {l : List Int} (h : Ints B w v l) : ∀ g, v.ownBlock = some g → B ≤ g := by
  intro g hg
  rcases h.2 with ⟨h2, _⟩ | ⟨g', cap, cur, hv, hg', hh, hr⟩
  · rw [h2] at hg; cases hg
  · rw [hv] at hg; cases hg; exact hg'
theorem Ints_one {B : Nat} (W : World) (x : Int) (h : B ≤ W.heap.size) : Ints B (W.alloc (.cells #[.int .i64 x] 3)) (.slice (some ⟨W.heap.size, 0, none⟩) 1 1) [x] := by
  refine ⟨rfl, .inr ⟨W.heap.size, 1, #[.int .i64 x], rfl, h, ?_, Nat.le_refl _, by unfold maxLen; omega, rfl, rfl⟩⟩
  exact heap_alloc_new _ _
theorem Ints.pop {B : Nat} {w : World} {v : Value} {ys : List Int} {a : Int} (h : Ints B w v (ys ++ [a])) : ∃ g c, v = .slice (some ⟨g, 0, none⟩) (ys.length + 1) c ∧ B ≤ g ∧ g < w.heap.size ∧ ys.length + 1 ≤ c ∧
    w.cell? ⟨g, ys.length, none⟩ = some (.int .i64 a) ∧ Ints B w (.slice (some ⟨g, 0, none⟩) ys.length c) ys := by
  have h0 := h
  unfold Ints at h0
  simp only [List.map_append, List.map_cons, List.map_nil, List.length_append, List.length_cons, List.length_nil, Nat.zero_add] at h0
  obtain ⟨htl, hrow⟩ := h
  rcases hrow with ⟨_, h1⟩ | ⟨g, cap', cur, rfl, hbg, hg, hn, hcap, hcs, htake⟩
  · simp at h1
  refine ⟨g, cap', by simp, hbg, (Array.getElem?_eq_some_iff.1 hg).1, by simpa using hn, ?_, ownsRow_pop (last := [.int .i64 a]) (by simp) (by rw [show (ys ++ [a]).length = ys.length + 1 by simp] at h0; exact h0)⟩
  have hcell : cur[ys.length]? = some (.int .i64 a) := by
    have h1 : (cur.toList.take ((ys ++ [a]).length * 1))[ys.length]? = some (.int .i64 a) := by rw [htake]; simp
    rw [List.getElem?_take_of_lt (by simp)] at h1
    simpa using h1
  simp [World.cell?, hg, hcell]
structure RowsL (B : Nat) (w : World) (fl : List Value) (ls : List (List Int)) : Prop where
  len : fl.length = ls.length
  rows : ∀ (i : Nat) (v : Value) (l : List Int), fl[i]? = some v → ls[i]? = some l → Ints B w v l
  apart : ∀ (i j : Nat) (v u : Value), i ≠ j → fl[i]? = some v → fl[j]? = some u → ∀ g, v.ownBlock = some g → u.ownBlock ≠ some g
theorem RowsL.later {B : Nat} {w w' : World} {fl : List Value} {ls : List (List Int)} (h : RowsL B w fl ls) (hb : Below w.heap.size w w') : RowsL B w' fl ls :=
  ⟨h.len, fun i v l a b => own_below (h.rows i v l a b) hb, h.apart⟩
theorem RowsL.put {B : Nat} {w w3 : World} {fl : List Value} {ls : List (List Int)} {v v' : Value} {l' : List Int} (h : RowsL B w fl ls) (j : Nat) (hj : fl[j]? = some v) (hg : w.grownBy w3 v.ownBlock)
    (hown : Ints B w3 v' l') (hwh : v'.ownBlock = v.ownBlock ∨ v'.ownBlock = some w.heap.size) : RowsL B w3 (fl.set j v') (ls.set j l') := by
  have hjl : j < fl.length := (List.getElem?_eq_some_iff.1 hj).1
  refine ⟨by simpa using h.len, fun i u l hu hl => ?_, fun i k u z hik hu hz g hgu => ?_⟩
  · rw [List.getElem?_set] at hu hl
    by_cases e : j = i
    · subst e
      rw [if_pos rfl, if_pos hjl] at hu
      rw [if_pos rfl, if_pos (by have := h.len; omega)] at hl
      cases hu; cases hl
      exact hown
    · rw [if_neg e] at hu hl
      exact Ints_grown (h.rows i u l hu hl) hg fun g hg' => fun e2 => h.apart j i v u e hj hu g e2 hg'
  · have hold : ∀ (i : Nat) (u : Value), fl[i]? = some u → ∀ g, u.ownBlock = some g → g < w.heap.size := fun i u hu g hgu => by
      have hi : i < ls.length := by rw [← h.len]; exact (List.getElem?_eq_some_iff.1 hu).1
      exact Ints_lt (h.rows i u _ hu (List.getElem?_eq_getElem hi)) g hgu
    rw [List.getElem?_set] at hu hz
    by_cases e : j = i
    · subst e
      rw [if_pos rfl, if_pos hjl] at hu
      rw [if_neg hik] at hz
      cases hu
      intro hzg
      rcases hwh with hw | hw
      · exact h.apart j k v z hik hj hz g (by rw [← hw]; exact hgu) hzg
      · rw [hw] at hgu; cases hgu
        exact absurd (hold k z hz _ hzg) (by omega)
    · rw [if_neg e] at hu
      by_cases e2 : j = k
      · subst e2
        rw [if_pos rfl, if_pos hjl] at hz
        cases hz
        intro hzg
        rcases hwh with hw | hw
        · exact h.apart i j u v hik hu hj g hgu (by rw [← hw]; exact hzg)
        · rw [hw] at hzg; cases hzg
          exact absurd (hold i u hu _ hgu) (by omega)
      · rw [if_neg e2] at hz
        exact h.apart i k u z hik hu hz g hgu
theorem RowsL.same {B : Nat} {w : World} {fl : List Value} {ls : List (List Int)} {v v' : Value} {l' : List Int} (h : RowsL B w fl ls) (j : Nat) (hj : fl[j]? = some v) (hown : Ints B w v' l') (he : v'.ownBlock = v.ownBlock) : RowsL B w (fl.set j v') (ls.set j l') :=
  h.put j hj ⟨rfl, rfl, rfl, Nat.le_refl _, fun _ _ _ => rfl⟩ hown (.inl he)
/-- What one appends to lies above. -/
theorem RowsL.below {B : Nat} {w0 w w3 : World} {fl : List Value} {ls : List (List Int)} {v : Value} (h : RowsL B w fl ls) (j : Nat) (hj : fl[j]? = some v) (hg : w.grownBy w3 v.ownBlock) (hb : Below B w0 w) (hB : B ≤ w0.heap.size) : Below B w0 w3 := by
  have hi : j < ls.length := by rw [← h.len]; exact (List.getElem?_eq_some_iff.1 hj).1
  refine Below.grown hb hg (Nat.le_trans hB hb.size) fun g hgg => Ints_ge (h.rows j v _ hj (List.getElem?_eq_getElem hi)) g hgg
end Go.Proofs.YtbgjanmheagilaaDoor

/- The reference's Walk, walked. Conditions: few nodes. -/
namespace Go.Proofs.YtbgjanmheagilaaDoor
open Go Go.RowKit Go.Nodes
set_option linter.unusedVariables false
set_option linter.unusedSimpArgs false
def preP (ns : List Nd) (x : Int × Int) : List (Int × Int) := pre ns x.1 x.2
theorem len_flat (ns : List Nd) : ∀ l : List (Int × Int), l.length ≤ (l.flatMap (preP ns)).length
  | [] => by simp
  | x :: l => by
    have := len_flat ns l
    rw [List.flatMap_cons, List.length_append, List.length_cons]
    have h2 : 0 < (preP ns x).length := by unfold preP pre preF; simp
    omega
theorem Ints_nil (B : Nat) (w : World) : Ints B w (.slice none 0 0) [] := ⟨rfl, .inl ⟨rfl, rfl⟩⟩
set_option maxRecDepth 10000 in
set_option maxHeartbeats 4000000 in
theorem rwalk_any (w : World) (p : Option Addr) (c : Nat) (ns : List Nd) (hs : Small ns) (hc : Capped ns) (ha : NodesAt w p ns) (hl0 : Lib0 w) :
    Calls Tryd.prog 21 #[.slice p ns.length c] w fun e w' => ∃ v u, e = .returned (.tuple #[v, u]) ∧ Below w.heap.size w w' ∧ Ints w.heap.size w' v ((walkS ns).map (·.1)) ∧ Ints w.heap.size w' u ((walkS ns).map (·.2)) := by
  have hck := rcheck_any w p c ns hs hc ha hl0
  have Ha := hid ha
  have Hs := hid hs
  clear ha hs hc hl0
  obtain ⟨L, hL⟩ : ∃ L, L = ns.length := ⟨_, rfl⟩
  rw [← hL] at hck ⊢
  have hL5 : (L : Int) ≤ 5000 := by have := Hs.out.1; omega
  have HL := hid hL
  clear hL
  unfold ErrPost at hck
  obtain ⟨e0, he0⟩ : ∃ e0, e0 = (checkS ns).1 := ⟨_, rfl⟩
  obtain ⟨e1, he1⟩ : ∃ e1, e1 = (checkS ns).2 := ⟨_, rfl⟩
  rw [← he0, ← he1] at hck
  have He1 := hid he1
  clear he0 he1
  go_enter Tryd.func21, Tryd.ntmps21
  by_cases he : e1 = 0
  · subst he
    have Ht := hid (taken He1.out.symm)
    have Hw : Hid (walkS ns = pre ns ((ns.length : Int) - 1) 0) := hid (by unfold walkS; rw [if_pos He1.out.symm])
    go_wp2_with (go_at_call 35; refine hck.mono ?_; rintro e w' ⟨rfl, hb⟩; obtain ⟨g, rfl⟩ := bout hb; clear hb)
    have hL1 : (1 : Int) ≤ (L : Int) := by have := Ht.out.2.1; have := HL.out; omega
    go_loopg [6, 7, 8, 9] L (fun k v6 v7 v8 v9 wr => ∃ (done st : List (Int × Int)), Below w.heap.size w wr ∧
      Hid (RowsL w.heap.size wr [v6, v7, v8, v9] [done.map (·.1), done.map (·.2), st.map (·.1), st.map (·.2)] ∧
        done ++ st.reverse.flatMap (preP ns) = walkS ns ∧ (st.reverse.flatMap (preP ns)).length ≤ k ∧ ∀ x ∈ st, 0 ≤ x.1 ∧ x.1 < L ∧ 0 ≤ x.2 ∧ x.2 ≤ done.length))
    case atStart =>
      refine ⟨[], [((L : Int) - 1, 0)], by repeat (first | exact Below.refl _ _ | refine bG ?_ _ | refine bA ?_ _), hid ⟨?_, ?_, ?_, ?_⟩⟩
      · have h1 : RowsL w.heap.size ((grow w g).alloc (.cells #[.int .i64 ((L : Int) - 1)] 3)) [.slice none 0 0, .slice none 0 0, .slice (some ⟨(grow w g).heap.size, 0, none⟩) 1 1, .slice none 0 0] [[], [], [(L : Int) - 1], []] := by
          refine ⟨rfl, ?_, ?_⟩
          · rintro (_ | _ | _ | _ | _) v l hv hl <;> simp at hv hl <;> subst hv <;> subst hl
            · exact Ints_nil _ _
            · exact Ints_nil _ _
            · have h0 := Ints_one (B := w.heap.size) (grow w g) ((L : Int) - 1) (below_grow w g).size
              simpa using h0
            · exact Ints_nil _ _
          · rintro (_ | _ | _ | _ | _) (_ | _ | _ | _ | _) v u hne hv hu g' hg hg' <;> simp at hv hu hne <;> subst hv <;> subst hu <;> simp [Value.ownBlock] at hg hg'
        have hb := bA (Below.refl _ ((grow w g).alloc (.cells #[.int .i64 ((L : Int) - 1)] 3))) (.cells #[.int .i64 0] 3)
        have h2 := h1.put 3 rfl (v' := .slice (some ⟨((grow w g).alloc (.cells #[.int .i64 ((L : Int) - 1)] 3)).heap.size, 0, none⟩) 1 1) (l' := [0]) ⟨hb.os, hb.tape, hb.output, hb.size, fun n h _ => hb.block n h⟩ (Ints_one _ _ (Nat.le_trans (below_grow w g).size (bA (Below.refl _ (grow w g)) _).size)) (.inr rfl)
        simpa using h2
      · rw [Hw.out]; simp [preP, HL.out]
      · simp [preP]
        have := walkS_len ns
        rw [Hw.out, ← HL.out] at this
        exact this
      · simp; omega
    case round =>
      obtain ⟨done, st, hB, hI⟩ := hrel
      rcases List.eq_nil_or_concat st with rfl | ⟨ys, x, hst⟩
      · obtain ⟨p8, c8, h8, _⟩ := (hI.out.1.rows 2 u8 _ rfl rfl).out
        simp only [List.map_nil, List.length_nil] at h8
        subst h8
        go_wp2
        go_ret2
        obtain ⟨h1, h2, _⟩ := hI.out
        simp only [List.reverse_nil, List.flatMap_nil, List.append_nil] at h2
        rw [← h2]
        exact ⟨_, _, rfl, hB, h1.rows 0 _ _ rfl rfl, h1.rows 1 _ _ rfl rfl⟩
      · obtain ⟨n, d⟩ := x
        rw [List.concat_eq_append] at hst
        subst hst
        obtain ⟨hR, hsum, hk, hin⟩ := hI.out
        clear hI
        have h8 : Ints w.heap.size wr u8 (ys.map (·.1) ++ [n]) := by have := hR.rows 2 u8 _ rfl rfl; rw [List.map_append] at this; exact this
        have h9 : Ints w.heap.size wr u9 (ys.map (·.2) ++ [d]) := by have := hR.rows 3 u9 _ rfl rfl; rw [List.map_append] at this; exact this
        obtain ⟨g8, c8, rfl, hb8, hl8, hc8, e8, o8⟩ := h8.pop
        obtain ⟨g9, c9, rfl, hb9, hl9, hc9, e9, o9⟩ := h9.pop
        have hR2 : RowsL w.heap.size wr [u6, u7, .slice (some ⟨g8, 0, none⟩) (ys.map (·.1)).length c8, .slice (some ⟨g9, 0, none⟩) (ys.map (·.2)).length c9] [done.map (·.1), done.map (·.2), ys.map (·.1), ys.map (·.2)] :=
          (hR.same 2 rfl o8 rfl).same 3 rfl o9 rfl
        have hnd := hin (n, d) (by simp)
        have hfl : (ys ++ [(n, d)]).reverse.flatMap (preP ns) = (n, d) :: ((kidsOf ns n).flatMap (fun k => preP ns (k, d + 1)) ++ ys.reverse.flatMap (preP ns)) := by
          simp only [List.reverse_append, List.reverse_cons, List.reverse_nil, List.nil_append, List.singleton_append, List.flatMap_cons]
          show pre ns n d ++ _ = _
          rw [pre_eq Ht.out.1 n d hnd.1]; rfl
        rw [hfl] at hsum hk
        have hkl : (kidsOf ns n).length + ys.length + done.length < 5000 := by
          have h1 := walkS_len ns
          rw [← hsum] at h1
          have h2 := len_flat ns ys.reverse
          have h3 := len_flat ns ((kidsOf ns n).map fun k => (k, d + 1))
          rw [List.flatMap_map] at h3
          have h4 := HL.out
          simp only [List.length_append, List.length_cons, List.length_reverse, List.length_map] at h1 h2 h3
          omega
        simp only [List.length_map] at e8 e9 hc8 hc9 hR2 hR h8 h9 o8 o9 ⊢
        have Hsum := hid hsum
        have Hk := hid hk
        have Hin := hid hin
        have HR2 := hid hR2
        obtain ⟨i, rfl⟩ : ∃ i : Nat, n = (i : Int) := ⟨n.toNat, by omega⟩
        have hi : i < ns.length := by have := HL.out; have := hnd.2.1; simp only at this; omega
        obtain ⟨b, o, rfl, hb, hx, hf, a0, a1, a2, a3⟩ := nd_at (NodesAt.later Ha.out (show Below w.heap.size w wr from hB)) hi
        have hko := kidsOf_nat hx
        rw [hko] at hfl hkl
        generalize hm : ys.length = m at *
        have Hm := hid hm
        clear hm
        clear hsum hk hin hR hR2 h8 h9 o8 o9 hfl hck a0 a1 a3
        simp only at hnd
        obtain ⟨hn0, hn1, hd0, hd1⟩ := hnd
        have m0 : (0 : Int) ≤ (m : Int) := by omega
        have m1 : (m : Int) ≤ (c8 : Int) := by omega
        have m2 : (m : Int) ≤ (c9 : Int) := by omega
        have m3 : (m : Int) < (m : Int) + 1 := by omega
        have m4 : (0 : Int) < (m : Int) + 1 := by omega
        have m5 : (m : Int) ≤ 5000 := by omega
        have hd2 : d + 1 ≤ 5001 := by omega
        have Hkl := hid hkl
        clear hkl
        go_wp2
        go_quiet (fail)
        revert nq; intro q1
        go_wp2
        go_quiet (fail)
        revert nq; intro q2
        try rw [World.drewN_drewN]
        generalize hW : wr.drewN (q1 + q2) = W
        have hBW : Below w.heap.size w W := by rw [← hW]; exact _root_.Go.below_drewN hB _
        have HRW := hid (HR2.out.later (show Below wr.heap.size wr W by rw [← hW]; exact _root_.Go.below_drewN (Below.refl _ _) _))
        have hzW : w.heap.size ≤ W.heap.size := hBW.size
        clear hW HR2 hB e8 e9 hb8 hl8 hb9 hl9 a2 hb
        go_wp2_with (at_builtin; go_loud (refine wpList_append_int rfl _ _ rfl w.heap.size u6 (done.map (·.1)) (i : Int) W.heap.size 1 rfl ?aown1 rfl ?acell1 ?alen1 ?abase1 ?arest1))
        case aown1 => exact own_below (HRW.out.rows 0 _ _ rfl rfl) (bA (Below.refl _ _) _)
        case acell1 => simp only [World.cell?, heap_alloc_new]; rfl
        case alen1 => have := Hkl.out; first | omega | (rw [List.length_map]; omega)
        case abase1 => first | omega | (simp; omega)
        case arest1 =>
        intro v6 W1 k1 k2 k3
        have hB1 : Below w.heap.size w W1 := RowsL.below (HRW.out.later (bA (Below.refl _ _) _)) 0 rfl k2 (hBW.alloc hzW _) (Nat.le_refl _)
        have HR1 := hid ((HRW.out.later (bA (Below.refl _ _) (.cells #[.int .i64 (i : Int)] 3))).put 0 rfl k2 k1 (by rw [World.size_alloc]; exact k3))
        clear k1 k2 k3 HRW hBW hzW
        have hz1 : w.heap.size ≤ W1.heap.size := hB1.size
        go_wp2_with (at_builtin; go_loud (refine wpList_append_int rfl _ _ rfl w.heap.size u7 (done.map (·.2)) d W1.heap.size 1 rfl ?aown2 rfl ?acell2 ?alen2 ?abase2 ?arest2))
        case aown2 => exact own_below (HR1.out.rows 1 _ _ rfl rfl) (bA (Below.refl _ _) _)
        case alen2 => have := Hkl.out; first | omega | (rw [List.length_map]; omega)
        case abase2 => first | omega | (simp; omega)
        case arest2 =>
        intro v7 W2 k1 k2 k3
        have hB2 : Below w.heap.size w W2 := RowsL.below (HR1.out.later (bA (Below.refl _ _) _)) 1 rfl k2 (hB1.alloc hz1 _) (Nat.le_refl _)
        have HR2 := hid ((HR1.out.later (bA (Below.refl _ _) (.cells #[.int .i64 d] 3))).put 1 rfl k2 k1 (by rw [World.size_alloc]; exact k3))
        clear k1 k2 k3 HR1 hB1 hz1
        obtain ⟨q, hq⟩ : ∃ q, q = ns[i].kids.length := ⟨_, rfl⟩
        obtain ⟨kids, hkids⟩ : ∃ kids, kids = ns[i].kids := ⟨_, rfl⟩
        obtain ⟨kp, hkp⟩ : ∃ kp, kp = ns[i].kp := ⟨_, rfl⟩
        obtain ⟨kcap, hkcap⟩ : ∃ kcap, kcap = ns[i].kcap := ⟨_, rfl⟩
        have hq5 : (q : Int) ≤ 5000 := by have := Hkl.out; omega
        have Hat : Hid (∀ W, Below w.heap.size w W → b < W.heap.size ∧ W.cell? ⟨b, o + i * 4 + 2, none⟩ = some (.slice kp q kcap) ∧ ∀ j, j < q → ∃ bx ox, kp = some ⟨bx, ox, none⟩ ∧ bx < W.heap.size ∧ W.cell? ⟨bx, ox + j, none⟩ = some (.int .i64 (kids.getD j 0))) := hid fun W hW => by
          obtain ⟨b', o', hp', hb, hx', hf', _, _, a2, _⟩ := nd_at (NodesAt.later Ha.out (show Below w.heap.size w W from hW)) hi
          cases hp'
          rw [hkp, hq, hkcap, hkids]
          exact ⟨hb, a2, fun j hj => kid_at hf' hj⟩
        obtain ⟨hb, a2, _⟩ := Hat.out W2 hB2
        have Hko : Hid (kidsOf ns (i : Int) = kids) := hid (by rw [hkids]; exact hko)
        have Hqk : Hid (kids.length = q) := hid (by rw [hq, hkids])
        have Hkl2 : Hid (q + m + done.length < 5000) := hid (by have := Hkl.out; rw [hq]; exact this)
        clear hq hkids hkp hkcap hko Hkl hx hf hi
        go_wp2
        go_loopw [8, 9, 12] (fun v8 v9 iv wr2 => ∃ (m2 : Nat) (t : Int), m2 ≤ q ∧ t + 1 = m2 ∧ iv = .int .i64 t ∧ Below w.heap.size w wr2 ∧
          Hid (RowsL w.heap.size wr2 [v6, v7, v8, v9] [done.map (·.1) ++ [(i : Int)], done.map (·.2) ++ [d], ys.map (·.1) ++ (kids.drop m2).reverse, ys.map (·.2) ++ (kids.drop m2).reverse.map (fun _ => d + 1)])) (fun _ _ iv _ => (intOf iv + 1).toNat)
        case atStart =>
          exact ⟨q, (q : Int) - 1, Nat.le_refl _, by omega, rfl, hB2, hid (by rw [List.drop_of_length_le (by rw [Hqk.out]; exact Nat.le_refl _)]; simpa using HR2.out)⟩
        case round =>
          obtain ⟨m2, t, hm2, ht, rfl, hB3, HR3⟩ := hrel
          cases m2 with
          | zero =>
            obtain rfl : t = -1 := by omega
            go_wp2
            obtain ⟨k', rfl⟩ : ∃ k', gk = k' + 1 := ⟨gk - 1, by have := Hk.out; simp only [List.length_cons] at this; omega⟩
            go_roundg k'
            case measure => omega
            case rel =>
              refine ⟨done ++ [((i : Int), d)], ys ++ kids.reverse.map (fun k => (k, d + 1)), hB3, hid ⟨?_, ?_, ?_, ?_⟩⟩
              · have := HR3.out
                simpa [List.map_map, Function.comp_def] using this
              · have h1 := Hsum.out
                rw [Hko.out] at h1
                rw [← h1]
                simp [List.flatMap_map]
              · have h1 := Hk.out
                rw [Hko.out] at h1
                simp only [List.length_cons, List.length_append] at h1
                simp [List.flatMap_map] at h1 ⊢
                omega
              · intro x hx
                rcases List.mem_append.1 hx with hx | hx
                · have := Hin.out x (by simp [hx])
                  simp only [List.length_append, List.length_cons, List.length_nil]
                  omega
                · obtain ⟨k, hk, rfl⟩ := List.mem_map.1 hx
                  have := Ht.out.1 (i : Int) hn0 k (by rw [Hko.out]; simpa using hk)
                  simp only [List.length_append, List.length_cons, List.length_nil]
                  omega
          | succ m3 =>
            obtain rfl : t = (m3 : Int) := by omega
            have hz3 : w.heap.size ≤ wr.heap.size := hB3.size
            obtain ⟨hb3, c2, hkk⟩ := Hat.out wr hB3
            obtain ⟨bx, ox, rfl, hbx, ck⟩ := hkk m3 (by omega)
            have n0 : (0 : Int) ≤ (m3 : Int) := by omega
            have n1 : (m3 : Int) < (q : Int) := by omega
            generalize hkd : kids.getD m3 0 = kd at *
            have Hkd : Hid ((kids.drop m3).reverse = (kids.drop (m3 + 1)).reverse ++ [kd]) := hid (by
              have h1 : m3 < kids.length := by rw [Hqk.out]; omega
              rw [List.drop_eq_getElem_cons h1, List.reverse_cons, ← hkd, List.getD, List.getElem?_eq_getElem h1]; rfl)
            clear hkd hkk
            have Hl3 : Hid ((kids.drop (m3 + 1)).length + m + done.length < 5000) := hid (by have := Hkl2.out; rw [List.length_drop, Hqk.out]; omega)
            obtain ⟨A8, hA8⟩ : ∃ A8, A8 = ys.map (·.1) ++ (kids.drop (m3 + 1)).reverse := ⟨_, rfl⟩
            obtain ⟨A9, hA9⟩ : ∃ A9, A9 = ys.map (·.2) ++ (kids.drop (m3 + 1)).reverse.map (fun _ => d + 1) := ⟨_, rfl⟩
            rw [← hA8, ← hA9] at HR3
            have l8 : A8.length ≤ 5000 := by have h1 := Hl3.out; have h2 := Hm.out; rw [hA8, List.length_append, List.length_reverse, List.length_map]; omega
            have l9 : A9.length ≤ 5000 := by have h1 := Hl3.out; have h2 := Hm.out; rw [hA9]; simp only [List.length_append, List.length_map, List.length_reverse]; omega
            have HA8 := hid hA8
            have HA9 := hid hA9
            clear hA8 hA9
            go_wp2_with (at_builtin; go_loud (refine wpList_append_int rfl _ _ rfl w.heap.size u8 A8 kd wr.heap.size 1 rfl ?aown3 rfl ?acell3 ?alen3 ?abase3 ?arest3))
            case aown3 => exact own_below (HR3.out.rows 2 _ _ rfl rfl) (bA (Below.refl _ _) _)
            case acell3 => simp only [World.cell?, heap_alloc_new]; rfl
            case alen3 => omega
            case abase3 => first | omega | (simp; omega)
            case arest3 =>
            intro v8 W3 k1 k2 k3
            have hB4 : Below w.heap.size w W3 := RowsL.below (HR3.out.later (bA (Below.refl _ _) _)) 2 rfl k2 (hB3.alloc hz3 _) (Nat.le_refl _)
            have HR4 := hid ((HR3.out.later (bA (Below.refl _ _) (.cells #[.int .i64 kd] 3))).put 2 rfl k2 k1 (by rw [World.size_alloc]; exact k3))
            clear k1 k2 k3 HR3 hB3 hz3 ck c2 hb3 hbx
            have hz4 : w.heap.size ≤ W3.heap.size := hB4.size
            go_wp2_with (at_builtin; go_loud (refine wpList_append_int rfl _ _ rfl w.heap.size u9 A9 (d + 1) W3.heap.size 1 rfl ?aown4 rfl ?acell4 ?alen4 ?abase4 ?arest4))
            case aown4 => exact own_below (HR4.out.rows 3 _ _ rfl rfl) (bA (Below.refl _ _) _)
            case acell4 => simp only [World.cell?, heap_alloc_new]; rfl
            case alen4 => omega
            case abase4 => first | omega | (simp; omega)
            case arest4 =>
            intro v9 W4 k1 k2 k3
            have hB5 : Below w.heap.size w W4 := RowsL.below (HR4.out.later (bA (Below.refl _ _) _)) 3 rfl k2 (hB4.alloc hz4 _) (Nat.le_refl _)
            have HR5 := hid ((HR4.out.later (bA (Below.refl _ _) (.cells #[.int .i64 (d + 1)] 3))).put 3 rfl k2 k1 (by rw [World.size_alloc]; exact k3))
            clear k1 k2 k3 HR4 hB4 hz4
            go_wp2
            go_roundw
            case rel =>
              refine ⟨m3, (m3 : Int) - 1, by omega, by omega, by go_num, hB5, hid ?_⟩
              have := HR5.out
              rw [Hkd.out, List.map_append, ← List.append_assoc, ← List.append_assoc, ← HA8.out, List.map_cons, List.map_nil, ← HA9.out]
              exact this
            case measure => simp [intOf]
  · have hne : (e1 != 0) = true := by simp [he]
    have Hne := hid he
    clear he
    go_wp2_with (go_at_call 35; refine hck.mono ?_; rintro e w' ⟨rfl, hb⟩; obtain ⟨g, rfl⟩ := bout hb; clear hb)
    go_ret2
    have hw : walkS ns = [] := by unfold walkS; rw [if_neg (fun h => Hne.out (He1.out.trans h))]
    rw [hw]
    exact ⟨_, _, rfl, by repeat (first | exact Below.refl _ _ | refine bG ?_ _), Ints_nil _ _, Ints_nil _ _⟩
end Go.Proofs.YtbgjanmheagilaaDoor
