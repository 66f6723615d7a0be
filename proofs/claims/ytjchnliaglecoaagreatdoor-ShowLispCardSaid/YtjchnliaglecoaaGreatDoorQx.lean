/- lex.Quote, walked. Conditions: the text is not too long. -/
import Derived.Laws.IdiomStrings
import Derived.Laws.AppendOwn
import Derived.Lib.AppendStr
import Derived.Lib.UnsafeStr
import Derived.Test.YtjchnliaglecoaaGreatDoorQr
import Derived.Test.YtjchnliaglecoaaGreatDoorAmS
set_option linter.unusedVariables false
set_option linter.unusedSimpArgs false
namespace Go.Proofs.YtjchnliaglecoaaGreatDoor
open Go Go.RowKit Go.Nodes
set_option linter.unusedVariables false
set_option linter.unusedSimpArgs false
theorem Tryz.infoByte : (Tryz.prog.info? 5).map (fun i => (i.zero, i.size, i.bytes)) = some (some (.int .u8 0), 1, 1) := by kernel_rfl
theorem byteInfo : ∃ i, Tryz.prog.info? 5 = some i ∧ i.zero = some (.int .u8 0) ∧ i.size = 1 ∧ i.bytes = 1 := by
  obtain ⟨i, hi, h⟩ := Option.map_eq_some_iff.1 Tryz.infoByte
  simp only [Prod.mk.injEq] at h
  exact ⟨i, hi, h.1, h.2.1, h.2.2⟩
/-- A slice that owns a row of the bytes of a text; below B all is as it was. -/
def Own (W : World) (B : Nat) (v : Value) (s : ByteArray) (w : World) : Prop := w.ownsRow B 5 1 v s.size (Lib.strCells s) ∧ Below B W w ∧ B ≤ w.heap.size
theorem Own.alloc {W w : World} {B : Nat} {v : Value} {s : ByteArray} (h : Own W B v s w) (o : Obj) : Own W B v s (w.alloc o) :=
  ⟨h.1.alloc o, h.2.1.alloc h.2.2 o, Nat.le_trans h.2.2 ((Below.refl 0 w).alloc (Nat.zero_le _) o).size⟩
theorem Own.drew {W w : World} {B : Nat} {v : Value} {s : ByteArray} (h : Own W B v s w) : Own W B v s w.drew :=
  ⟨⟨h.1.1, h.1.2⟩, ⟨h.2.1.os, h.2.1.tape, h.2.1.output, h.2.1.size, h.2.1.block⟩, h.2.2⟩
theorem strCells_app (s t : ByteArray) : Lib.strCells (s ++ t) = Lib.strCells s ++ Lib.strCells t := by
  simp [Lib.strCells_eq, Lib.byteCells]
theorem strCells_one (t : ByteArray) : ∀ u ∈ Lib.strCells t, u.oneCell' = true := by
  intro u hu
  rw [Lib.strCells_eq] at hu
  obtain ⟨x, _, rfl⟩ := List.mem_map.1 hu
  rfl
theorem strCells_len (t : ByteArray) : (Lib.strCells t).length = t.size := by
  rw [Lib.strCells_eq, Lib.byteCells_length]; simp
theorem own_rowAt {W w : World} {B g : Nat} {v : Value} {s t : ByteArray} (h : Own W B v s w) (hg : w.heap[g]? = some (.cells (Lib.strCells t).toArray 5 (0, 0))) (hlen : s.size + t.size ≤ 1000000000) :
    ∃ v' w', (Builtin.append_ #[75, 75] 75 #[v, .slice (some ⟨g, 0, none⟩) t.size t.size]).run Tryz.prog w = .ok v' w' ∧ Own W B v' (s ++ t) w' := by
  obtain ⟨i, hi, hz, hsz, hby⟩ := byteInfo
  obtain ⟨v', w', hr, h2, h3, _⟩ := run_append_own (P := Tryz.prog) _ B 75 75 5 i (.int .u8 0) 1 1 Tryz.underlying75 hi hz hsz hby rfl (by decide) v s.size (Lib.strCells s) h.1 ⟨g, 0, none⟩ t.size t.size (Lib.strCells t) (by rw [strCells_len]; omega)
    (fun j u hu => by
      have : (⟨g, 0, none⟩ : Addr).add j = ⟨g, j, none⟩ := by unfold Addr.add; split <;> simp_all
      rw [this, Lib.cell_of_heap hg]
      simpa using hu) (strCells_one t) (by unfold maxLen; omega) (by omega) h.2.2
  refine ⟨v', w', hr, ?_, h.2.1.grown h3 h.2.2 (fun k hk => (h.1.lt k hk).1), Nat.le_trans h.2.2 h3.size⟩
  rw [strCells_app, ByteArray.size_append]
  exact h2
theorem own_row {W w : World} {B : Nat} {v : Value} {s t : ByteArray} (h : Own W B v s w) (hlen : s.size + t.size ≤ 1000000000) :
    ∃ v' w', (Builtin.append_ #[75, 75] 75 #[v, .slice (some ⟨w.heap.size, 0, none⟩) t.size t.size]).run Tryz.prog (w.alloc (.cells (Lib.strCells t).toArray 5)) = .ok v' w' ∧ Own W B v' (s ++ t) w' :=
  own_rowAt (h.alloc _) (heap_alloc_new w _) hlen
theorem Own.later {W w w' : World} {B : Nat} {v : Value} {s : ByteArray} (h : Own W B v s w) (hb : Below w.heap.size w w') : Own W B v s w' := by
  refine ⟨⟨h.1.1, ?_⟩, h.2.1.trans (hb.mono h.2.2), Nat.le_trans h.2.2 hb.size⟩
  rcases h.1.2 with h1 | ⟨g, cap, cur, h1, h2, h3, h4⟩
  · exact .inl h1
  · exact .inr ⟨g, cap, cur, h1, h2, by rw [hb.block g (Array.getElem?_eq_some_iff.1 h3).1]; exact h3, h4⟩
theorem wp_own_rowAt {ops : Array Oper} {rest : List Oper} {o : Oper} {a : Act} {Q : Exit → Act → World → Prop} (hgd : o.guard = none) (s x : Operand)
    (ho : o.op = .call { callee := .builtin .append, args := #[s, x], argTypes := #[75, 75] }) (hty : o.type = 75) {W w : World} {B g : Nat} {v : Value} {q t : ByteArray} (h : Own W B v q w) (hg : w.heap[g]? = some (.cells (Lib.strCells t).toArray 5 (0, 0))) (hs : a.eval s = v) (hx : a.eval x = .slice (some ⟨g, 0, none⟩) t.size t.size) (hlen : q.size + t.size ≤ 1000000000)
    (hk : ∀ v' w', Own W B v' (q ++ t) w' → wpList Tryz.prog ops Q rest (a.put o.dst v') w') : wpList Tryz.prog ops Q (o :: rest) a w := by
  refine wpList_plain hgd fun K hK => ?_
  obtain ⟨v', w', hr, h2⟩ := own_rowAt h hg hlen
  unfold Oper.wp execOp
  simp only [ho, resolve, invoke, builtin, Sem.run_bind, Sem.run_pure, Result.andThen_ok, List.map_toArray, List.map_cons, List.map_nil, hs, hx, hty, hr]
  exact hK _ _ (hk v' w' h2)
theorem wp_own_row {ops : Array Oper} {rest : List Oper} {o : Oper} {a : Act} {Q : Exit → Act → World → Prop} (hgd : o.guard = none) (s x : Operand)
    (ho : o.op = .call { callee := .builtin .append, args := #[s, x], argTypes := #[75, 75] }) (hty : o.type = 75) {W w : World} {B : Nat} {v : Value} {q t : ByteArray} (h : Own W B v q w) (hs : a.eval s = v) (hx : a.eval x = .slice (some ⟨w.heap.size, 0, none⟩) t.size t.size) (hlen : q.size + t.size ≤ 1000000000)
    (hk : ∀ v' w', Own W B v' (q ++ t) w' → wpList Tryz.prog ops Q rest (a.put o.dst v') w') : wpList Tryz.prog ops Q (o :: rest) a (w.alloc (.cells (Lib.strCells t).toArray 5)) := by
  refine wpList_plain hgd fun K hK => ?_
  obtain ⟨v', w', hr, h2⟩ := own_row h hlen
  unfold Oper.wp execOp
  simp only [ho, resolve, invoke, builtin, Sem.run_bind, Sem.run_pure, Result.andThen_ok, List.map_toArray, List.map_cons, List.map_nil, hs, hx, hty, hr]
  exact hK _ _ (hk v' w' h2)
theorem wp_own_text {ops : Array Oper} {rest : List Oper} {o : Oper} {a : Act} {Q : Exit → Act → World → Prop} (hgd : o.guard = none) (s x : Operand)
    (ho : o.op = .call { callee := .builtin .append, args := #[s, x], argTypes := #[75, 9] }) {W w : World} {B : Nat} {v : Value} {q t : ByteArray} (h : Own W B v q w) (hs : a.eval s = v) (hx : a.eval x = .string t) (hlen : q.size + t.size ≤ 1000000000)
    (hk : ∀ v' w', Own W B v' (q ++ t) w' → wpList Tryz.prog ops Q rest (a.put o.dst v') w') : wpList Tryz.prog ops Q (o :: rest) a w := by
  obtain ⟨i, hi, hz, hsz, hby⟩ := byteInfo
  refine Lib.wpList_append_own_string w hgd s x 75 9 ho B 5 i Tryz.underlying75 Tryz.underlying9 hi hz hsz hby v q.size (Lib.strCells q) hs h.1 t hx (by unfold maxLen; omega) (by omega) h.2.2 fun v' w' h2 h3 _ => hk v' w' ⟨?_, h.2.1.grown h3 h.2.2 (fun k hk => (h.1.lt k hk).1), Nat.le_trans h.2.2 h3.size⟩
  rw [strCells_app, ByteArray.size_append]
  exact h2
theorem own_string {W w : World} {B : Nat} {v : Value} {s : ByteArray} (h : Own W B v s w) (h0 : s.size ≠ 0) : (convert 75 9 v).run Tryz.prog w = .ok (.string s) w := by
  rcases h.1.2 with ⟨rfl, h1⟩ | ⟨g, cap, cur, rfl, _⟩
  · exact absurd h1 h0
  · have := run_convert_bytes_back (P := Tryz.prog) w 75 9 5 ⟨g, 0, none⟩ cap s.data.toList Tryz.underlying75 Tryz.underlying5 Tryz.underlying9 (fun j hj => by
      refine h.1.cells (g := g) rfl j _ ?_
      rw [Lib.strCells_eq, Lib.byteCells, List.getElem?_map, List.getElem?_eq_getElem hj]; rfl)
    have e : s.data.toList.length = s.size := by simp
    rw [e] at this
    rw [this]
theorem hexD_at (h : Nat) (hh : h < 16) : hexD h = (⟨#[48, 49, 50, 51, 52, 53, 54, 55, 56, 57, 97, 98, 99, 100, 101, 102]⟩ : ByteArray)[h]'hh := by
  have : ∀ k : Fin 16, hexD k.val = (⟨#[48, 49, 50, 51, 52, 53, 54, 55, 56, 57, 97, 98, 99, 100, 101, 102]⟩ : ByteArray)[k.val]'k.isLt := by decide
  exact this ⟨h, hh⟩
theorem and15_tab : ((List.range 256).all fun b => decide (bits .and .u8 (b : Int) 15 = ((b % 16 : Nat) : Int))) = true := by decide +kernel
theorem and15 (b : Nat) (h : b < 256) : bits .and .u8 (b : Int) 15 = (b : Int) % 16 := by
  have := List.all_eq_true.1 and15_tab b (List.mem_range.2 h)
  simpa using this
def phiQ (ov : Value) (b q r : Nat) (x y : UInt8) (B : Nat) : Nat → World → Value → Prop
  | 0, w, v => v = ov
  | 1, w, v => v = .int .u8 b
  | 2, w, v => v = .int .u8 q
  | 3, w, v => v = .int .u8 ((x).toNat : Int)
  | 4, w, v => v = .int .u8 b
  | 5, w, v => v = .int .u8 r
  | 6, w, v => v = .int .u8 ((y).toNat : Int)
  | _, w, v => ∃ U : Nat, v = .slice (some ⟨U, 0, none⟩) 4 4 ∧ w.heap[U]? = some (.cells #[.int .u8 92, .int .u8 120, .int .u8 ((x).toNat : Int), .int .u8 ((y).toNat : Int)] 5 (0, 0)) ∧ B ≤ U
theorem phiQ_below {ov : Value} {b q r : Nat} {x y : UInt8} {B : Nat} : ∀ (k : Nat) (w w' : World) (v : Value), Below w.heap.size w w' → phiQ ov b q r x y B k w v → phiQ ov b q r x y B k w' v := by
  intro k w w' v hb h
  unfold phiQ at *
  split at h <;> first | exact h | exact (fun ⟨U, e, hh, hB⟩ => ⟨U, e, (hb.block U (Array.getElem?_eq_some_iff.1 hh).1).trans hh, hB⟩) h
set_option maxRecDepth 100000 in
set_option maxHeartbeats 4000000 in
theorem quote_any (s : ByteArray) (w : World) (hs : s.size ≤ 100000) :
    Calls Tryz.prog 54 #[.string s] w fun e w' => e = .returned (.string (quoteT s)) ∧ Below w.heap.size w w' := by
  go_enter Tryz.func54, Tryz.ntmps54
  go_wp2
  go_loopw [3, 9] (fun ov iv wr => ∃ i : Nat, i ≤ s.size ∧ iv = .int .i64 i ∧ Own w w.heap.size ov (preQ s i) wr) (fun _ iv _ => s.size - (intOf iv).toNat)
  case atStart =>
    refine ⟨0, Nat.zero_le _, rfl, ?_⟩
    rw [preQ_zero]
    refine ⟨⟨rfl, .inr ⟨w.heap.size, 1, #[.int .u8 34], rfl, Nat.le_refl _, heap_alloc_new w _, by decide, by unfold maxLen; omega, rfl, rfl⟩⟩, (Below.refl _ _).alloc (Nat.le_refl _) _, ((Below.refl 0 w).alloc (Nat.zero_le _) _).size⟩
  case round =>
    obtain ⟨i, hi, rfl, hO⟩ := hrel
    have hp := preQ_size s i
    by_cases hlt : i < s.size
    · have i0 : (0 : Int) ≤ (i : Int) := by omega
      have i1 : (i : Int) < (s.size : Int) := by omega
      have Hsucc := hid (preQ_succ s i hlt)
      obtain ⟨b, hbb⟩ : ∃ b, (s[i]).toNat = b := ⟨_, rfl⟩
      have hb256 : b < 256 := by rw [← hbb]; exact (s[i]).toNat_lt
      have HO := hid hO
      clear hO
      by_cases h10 : b = 10
      · subst h10
        have hq := hid (qc_10 hbb)
        go_wp2_with (at_builtin; refine wp_own_text rfl _ _ rfl HO.out rfl rfl (by have : (⟨#[92, 110]⟩ : ByteArray).size = 2 := rfl; omega) ?_)
        intro v' w' hO'
        go_wp2
        go_roundw
        case rel => exact ⟨i + 1, by omega, by go_num, by rw [Hsucc.out, hq.out]; exact hO'⟩
        case measure => simp [intOf]; omega
      have e10 : ((b : Int) == 10) = false := by simp; omega
      by_cases h92 : b = 92
      · subst h92
        have hq := hid (qc_esc (by omega) (.inr hbb))
        have hcb : s[i] = 92 := UInt8.toNat_inj.1 (by simpa using hbb)
        clear h10 e10
        go_wp2_with (at_builtin; refine wp_own_row (t := ⟨#[92, 92]⟩) rfl _ _ rfl rfl HO.out rfl rfl (by have : (⟨#[92, 92]⟩ : ByteArray).size = 2 := rfl; omega) ?_)
        intro v' w' hO'
        go_wp2
        go_roundw
        case rel => exact ⟨i + 1, by omega, by go_num, by rw [Hsucc.out, hq.out, hcb]; exact hO'⟩
        case measure => simp [intOf]; omega
      have e92 : ((b : Int) == 92) = false := by simp; omega
      by_cases h34 : b = 34
      · subst h34
        have hq := hid (qc_esc (by omega) (.inl hbb))
        have hcb : s[i] = 34 := UInt8.toNat_inj.1 (by simpa using hbb)
        clear h10 e10 h92 e92
        go_wp2_with (at_builtin; refine wp_own_row (t := ⟨#[92, 34]⟩) rfl _ _ rfl rfl HO.out rfl rfl (by have : (⟨#[92, 34]⟩ : ByteArray).size = 2 := rfl; omega) ?_)
        intro v' w' hO'
        go_wp2
        go_roundw
        case rel => exact ⟨i + 1, by omega, by go_num, by rw [Hsucc.out, hq.out, hcb]; exact hO'⟩
        case measure => simp [intOf]; omega
      have e34 : ((b : Int) == 34) = false := by simp; omega
      by_cases hx : b < 32 ∨ 126 < b
      · have hq := hid (qc_hex (c := s[i]) (by omega) (by omega) (by omega) (by omega))
        obtain ⟨q, hqq⟩ : ∃ q, b / 16 = q := ⟨_, rfl⟩
        obtain ⟨r, hrr⟩ : ∃ r, b % 16 = r := ⟨_, rfl⟩
        have q1 : q < 16 := by omega
        have q2 : r < 16 := by omega
        have hand : bits .and .u8 (b : Int) 15 = (r : Int) := by rw [and15 b hb256]; omega
        have hdiv : (b : Int) / 16 = (q : Int) := by omega
        have hm0 : (0 : Int) ≤ (r : Int) := by omega
        have hm1 : (r : Int) < 16 := by omega
        have hd0 : (0 : Int) ≤ (q : Int) := by omega
        have hd1 : (q : Int) < 16 := by omega
        rw [hbb, hqq, hrr, hexD_at q q1, hexD_at r q2] at hq
        rcases hx with hx | hx
        · have hx1 : (b : Int) < 32 := by omega
          go_wp2
          refine wp_region_any (by kernel_rfl) ?_
          refine Am.any_cut _ 9 rfl (by kernel_rfl) ?_
          simp only [List.take_succ_cons, List.take_zero]
          refine Am.any_cut _ 8 rfl (by kernel_rfl) ?_
          simp only [List.take_succ_cons, List.take_zero]
          refine Am.draw_phi_any (Φ := phiQ u3 b q r ((⟨#[48, 49, 50, 51, 52, 53, 54, 55, 56, 57, 97, 98, 99, 100, 101, 102]⟩ : ByteArray)[q]'q1) ((⟨#[48, 49, 50, 51, 52, 53, 54, 55, 56, 57, 97, 98, 99, 100, 101, 102]⟩ : ByteArray)[r]'q2) wr.heap.size) (w0 := wr) (by kernel_rfl) (by kernel_rfl) phiQ_below ?_ ?_ _ ((Below.refl _ _).drew)
          · intro kq o ca w1 ho hb hlook K hK
            have hBs : wr.heap.size ≤ w1.heap.size := hb.size
            have hfn : ∀ f, ca.eval (.func f) = .func (.func f) #[] #[] := fun _ => rfl
            have hcs : ∀ v, ca.eval (.const v) = v := fun _ => rfl
            rcases kq with _ | _ | _ | _ | _ | _ | _ | _ | kq
            · cases ho
              have h3 := Am.eval_tmp (Am.look_old (t := 3) hlook (by kernel_rfl) (by kernel_rfl) rfl)
              refine Am.wpOp_run rfl rfl (Am.wp_value (v := u3) ?_ (hK _ _ (Below.refl _ _) rfl))
              generalize ca.eval = ev at *
              simp [go_sem, execOp, hfn, hcs, h3]
            · cases ho
              have h5 := Am.eval_tmp (Am.look_old (t := 5) hlook (by kernel_rfl) (by kernel_rfl) rfl)
              refine Am.wpOp_run rfl rfl (Am.wp_value (v := .int .u8 b) ?_ (hK _ _ (Below.refl _ _) rfl))
              generalize ca.eval = ev at *
              simp [go_sem, execOp, hfn, hcs, h5]
            · cases ho
              have h43 : (ca.tmps.getD 43 undef) = .int .u8 b := Am.look_of (j := 1) hlook (by kernel_rfl) rfl rfl
              replace h43 := Am.eval_tmp h43
              refine Am.wpOp_run rfl rfl (Am.wp_value (v := .int .u8 q) ?_ (hK _ _ (Below.refl _ _) rfl))
              generalize ca.eval = ev at *
              simp [go_sem, execOp, hfn, hcs, h43, hdiv]
            · cases ho
              have h44 : (ca.tmps.getD 44 undef) = .int .u8 q := Am.look_of (j := 2) hlook (by kernel_rfl) rfl rfl
              replace h44 := Am.eval_tmp h44
              refine Am.wpOp_run rfl rfl (Am.wp_value (v := .int .u8 (((⟨#[48, 49, 50, 51, 52, 53, 54, 55, 56, 57, 97, 98, 99, 100, 101, 102]⟩ : ByteArray)[q]'q1).toNat : Int)) ?_ (hK _ _ (Below.refl _ _) rfl))
              generalize ca.eval = ev at *
              simp [go_sem, execOp, hfn, hcs, h44, hd0, hd1]
            · cases ho
              have h5 := Am.eval_tmp (Am.look_old (t := 5) hlook (by kernel_rfl) (by kernel_rfl) rfl)
              refine Am.wpOp_run rfl rfl (Am.wp_value (v := .int .u8 b) ?_ (hK _ _ (Below.refl _ _) rfl))
              generalize ca.eval = ev at *
              simp [go_sem, execOp, hfn, hcs, h5]
            · cases ho
              have h46 : (ca.tmps.getD 46 undef) = .int .u8 b := Am.look_of (j := 4) hlook (by kernel_rfl) rfl rfl
              replace h46 := Am.eval_tmp h46
              refine Am.wpOp_run rfl rfl (Am.wp_value (v := .int .u8 r) ?_ (hK _ _ (Below.refl _ _) rfl))
              generalize ca.eval = ev at *
              simp [go_sem, execOp, hfn, hcs, h46, hand]
            · cases ho
              have h47 : (ca.tmps.getD 47 undef) = .int .u8 r := Am.look_of (j := 5) hlook (by kernel_rfl) rfl rfl
              replace h47 := Am.eval_tmp h47
              refine Am.wpOp_run rfl rfl (Am.wp_value (v := .int .u8 (((⟨#[48, 49, 50, 51, 52, 53, 54, 55, 56, 57, 97, 98, 99, 100, 101, 102]⟩ : ByteArray)[r]'q2).toNat : Int)) ?_ (hK _ _ (Below.refl _ _) rfl))
              generalize ca.eval = ev at *
              simp [go_sem, execOp, hfn, hcs, h47, hm0, hm1]
            · cases ho
              have h45 : (ca.tmps.getD 45 undef) = .int .u8 (((⟨#[48, 49, 50, 51, 52, 53, 54, 55, 56, 57, 97, 98, 99, 100, 101, 102]⟩ : ByteArray)[q]'q1).toNat : Int) := Am.look_of (j := 3) hlook (by kernel_rfl) rfl rfl
              replace h45 := Am.eval_tmp h45
              have h48 : (ca.tmps.getD 48 undef) = .int .u8 (((⟨#[48, 49, 50, 51, 52, 53, 54, 55, 56, 57, 97, 98, 99, 100, 101, 102]⟩ : ByteArray)[r]'q2).toNat : Int) := Am.look_of (j := 6) hlook (by kernel_rfl) rfl rfl
              replace h48 := Am.eval_tmp h48
              refine Am.wpOp_run rfl rfl (Am.wp_value (v := .slice (some ⟨w1.heap.size, 0, none⟩) 4 4) (w' := w1.alloc (.cells #[.int .u8 92, .int .u8 120, .int .u8 (((⟨#[48, 49, 50, 51, 52, 53, 54, 55, 56, 57, 97, 98, 99, 100, 101, 102]⟩ : ByteArray)[q]'q1).toNat : Int), .int .u8 (((⟨#[48, 49, 50, 51, 52, 53, 54, 55, 56, 57, 97, 98, 99, 100, 101, 102]⟩ : ByteArray)[r]'q2).toNat : Int)] 5)) ?_ (hK _ _ ((Below.refl _ _).alloc (Nat.le_refl _) _) ⟨w1.heap.size, rfl, heap_alloc_new _ _, hBs⟩))
              generalize ca.eval = ev at *
              simp [go_sem, execOp, hfn, hcs, h45, h48]
            · simp at ho
          · intro ca w1 hb hd hs hphi hoth
            have h42 : ca.tmps.getD 42 undef = u3 := hphi 0 _ 42 rfl rfl
            obtain ⟨U, h49, hU, hU0⟩ : ∃ U : Nat, ca.tmps.getD 49 undef = .slice (some ⟨U, 0, none⟩) 4 4 ∧ w1.heap[U]? = some (.cells #[.int .u8 92, .int .u8 120, .int .u8 (((⟨#[48, 49, 50, 51, 52, 53, 54, 55, 56, 57, 97, 98, 99, 100, 101, 102]⟩ : ByteArray)[q]'q1).toNat : Int), .int .u8 (((⟨#[48, 49, 50, 51, 52, 53, 54, 55, 56, 57, 97, 98, 99, 100, 101, 102]⟩ : ByteArray)[r]'q2).toNat : Int)] 5 (0, 0)) ∧ wr.heap.size ≤ U := hphi 7 _ 49 rfl rfl
            have hca := Am.frame_out hd hs hoth
            simp only [List.foldl_cons, List.foldl_nil, h42, h49] at hca
            generalize ca.tmps.getD 43 undef = x43 at hca
            generalize ca.tmps.getD 44 undef = x44 at hca
            generalize ca.tmps.getD 45 undef = x45 at hca
            generalize ca.tmps.getD 46 undef = x46 at hca
            generalize ca.tmps.getD 47 undef = x47 at hca
            generalize ca.tmps.getD 48 undef = x48 at hca
            subst hca
            simp only [List.setIfInBounds_toArray, List.set_cons_succ, List.set_cons_zero]
            have hO1 := HO.out.later hb
            have hO2 := hid hO1
            clear hb hd hs hphi hoth h42 h49 hO1
            simp only [Am.LastW]
            refine wp_own_rowAt (t := ⟨#[92, 120, (⟨#[48, 49, 50, 51, 52, 53, 54, 55, 56, 57, 97, 98, 99, 100, 101, 102]⟩ : ByteArray)[q]'q1, (⟨#[48, 49, 50, 51, 52, 53, 54, 55, 56, 57, 97, 98, 99, 100, 101, 102]⟩ : ByteArray)[r]'q2]⟩) rfl _ _ rfl rfl hO2.out hU rfl rfl (by show (preQ s i).size + 4 ≤ _; omega) ?_
            intro v' w' hO'
            clear hU
            go_wp2
            simp only [Am.LastW]
            go_wp2
            go_roundw
            case rel => exact ⟨i + 1, by omega, by go_num, by rw [Hsucc.out, hq.out]; exact hO'⟩
            case measure => simp [intOf]; omega
        · have hx1 : ¬ (b : Int) < 32 := by omega
          have hx2 : (126 : Int) < (b : Int) := by omega
          go_wp2
          refine wp_region_any (by kernel_rfl) ?_
          refine Am.any_cut _ 9 rfl (by kernel_rfl) ?_
          simp only [List.take_succ_cons, List.take_zero]
          refine Am.any_cut _ 8 rfl (by kernel_rfl) ?_
          simp only [List.take_succ_cons, List.take_zero]
          refine Am.draw_phi_any (Φ := phiQ u3 b q r ((⟨#[48, 49, 50, 51, 52, 53, 54, 55, 56, 57, 97, 98, 99, 100, 101, 102]⟩ : ByteArray)[q]'q1) ((⟨#[48, 49, 50, 51, 52, 53, 54, 55, 56, 57, 97, 98, 99, 100, 101, 102]⟩ : ByteArray)[r]'q2) wr.heap.size) (w0 := wr) (by kernel_rfl) (by kernel_rfl) phiQ_below ?_ ?_ _ ((Below.refl _ _).drew)
          · intro kq o ca w1 ho hb hlook K hK
            have hBs : wr.heap.size ≤ w1.heap.size := hb.size
            have hfn : ∀ f, ca.eval (.func f) = .func (.func f) #[] #[] := fun _ => rfl
            have hcs : ∀ v, ca.eval (.const v) = v := fun _ => rfl
            rcases kq with _ | _ | _ | _ | _ | _ | _ | _ | kq
            · cases ho
              have h3 := Am.eval_tmp (Am.look_old (t := 3) hlook (by kernel_rfl) (by kernel_rfl) rfl)
              refine Am.wpOp_run rfl rfl (Am.wp_value (v := u3) ?_ (hK _ _ (Below.refl _ _) rfl))
              generalize ca.eval = ev at *
              simp [go_sem, execOp, hfn, hcs, h3]
            · cases ho
              have h5 := Am.eval_tmp (Am.look_old (t := 5) hlook (by kernel_rfl) (by kernel_rfl) rfl)
              refine Am.wpOp_run rfl rfl (Am.wp_value (v := .int .u8 b) ?_ (hK _ _ (Below.refl _ _) rfl))
              generalize ca.eval = ev at *
              simp [go_sem, execOp, hfn, hcs, h5]
            · cases ho
              have h43 : (ca.tmps.getD 43 undef) = .int .u8 b := Am.look_of (j := 1) hlook (by kernel_rfl) rfl rfl
              replace h43 := Am.eval_tmp h43
              refine Am.wpOp_run rfl rfl (Am.wp_value (v := .int .u8 q) ?_ (hK _ _ (Below.refl _ _) rfl))
              generalize ca.eval = ev at *
              simp [go_sem, execOp, hfn, hcs, h43, hdiv]
            · cases ho
              have h44 : (ca.tmps.getD 44 undef) = .int .u8 q := Am.look_of (j := 2) hlook (by kernel_rfl) rfl rfl
              replace h44 := Am.eval_tmp h44
              refine Am.wpOp_run rfl rfl (Am.wp_value (v := .int .u8 (((⟨#[48, 49, 50, 51, 52, 53, 54, 55, 56, 57, 97, 98, 99, 100, 101, 102]⟩ : ByteArray)[q]'q1).toNat : Int)) ?_ (hK _ _ (Below.refl _ _) rfl))
              generalize ca.eval = ev at *
              simp [go_sem, execOp, hfn, hcs, h44, hd0, hd1]
            · cases ho
              have h5 := Am.eval_tmp (Am.look_old (t := 5) hlook (by kernel_rfl) (by kernel_rfl) rfl)
              refine Am.wpOp_run rfl rfl (Am.wp_value (v := .int .u8 b) ?_ (hK _ _ (Below.refl _ _) rfl))
              generalize ca.eval = ev at *
              simp [go_sem, execOp, hfn, hcs, h5]
            · cases ho
              have h46 : (ca.tmps.getD 46 undef) = .int .u8 b := Am.look_of (j := 4) hlook (by kernel_rfl) rfl rfl
              replace h46 := Am.eval_tmp h46
              refine Am.wpOp_run rfl rfl (Am.wp_value (v := .int .u8 r) ?_ (hK _ _ (Below.refl _ _) rfl))
              generalize ca.eval = ev at *
              simp [go_sem, execOp, hfn, hcs, h46, hand]
            · cases ho
              have h47 : (ca.tmps.getD 47 undef) = .int .u8 r := Am.look_of (j := 5) hlook (by kernel_rfl) rfl rfl
              replace h47 := Am.eval_tmp h47
              refine Am.wpOp_run rfl rfl (Am.wp_value (v := .int .u8 (((⟨#[48, 49, 50, 51, 52, 53, 54, 55, 56, 57, 97, 98, 99, 100, 101, 102]⟩ : ByteArray)[r]'q2).toNat : Int)) ?_ (hK _ _ (Below.refl _ _) rfl))
              generalize ca.eval = ev at *
              simp [go_sem, execOp, hfn, hcs, h47, hm0, hm1]
            · cases ho
              have h45 : (ca.tmps.getD 45 undef) = .int .u8 (((⟨#[48, 49, 50, 51, 52, 53, 54, 55, 56, 57, 97, 98, 99, 100, 101, 102]⟩ : ByteArray)[q]'q1).toNat : Int) := Am.look_of (j := 3) hlook (by kernel_rfl) rfl rfl
              replace h45 := Am.eval_tmp h45
              have h48 : (ca.tmps.getD 48 undef) = .int .u8 (((⟨#[48, 49, 50, 51, 52, 53, 54, 55, 56, 57, 97, 98, 99, 100, 101, 102]⟩ : ByteArray)[r]'q2).toNat : Int) := Am.look_of (j := 6) hlook (by kernel_rfl) rfl rfl
              replace h48 := Am.eval_tmp h48
              refine Am.wpOp_run rfl rfl (Am.wp_value (v := .slice (some ⟨w1.heap.size, 0, none⟩) 4 4) (w' := w1.alloc (.cells #[.int .u8 92, .int .u8 120, .int .u8 (((⟨#[48, 49, 50, 51, 52, 53, 54, 55, 56, 57, 97, 98, 99, 100, 101, 102]⟩ : ByteArray)[q]'q1).toNat : Int), .int .u8 (((⟨#[48, 49, 50, 51, 52, 53, 54, 55, 56, 57, 97, 98, 99, 100, 101, 102]⟩ : ByteArray)[r]'q2).toNat : Int)] 5)) ?_ (hK _ _ ((Below.refl _ _).alloc (Nat.le_refl _) _) ⟨w1.heap.size, rfl, heap_alloc_new _ _, hBs⟩))
              generalize ca.eval = ev at *
              simp [go_sem, execOp, hfn, hcs, h45, h48]
            · simp at ho
          · intro ca w1 hb hd hs hphi hoth
            have h42 : ca.tmps.getD 42 undef = u3 := hphi 0 _ 42 rfl rfl
            obtain ⟨U, h49, hU, hU0⟩ : ∃ U : Nat, ca.tmps.getD 49 undef = .slice (some ⟨U, 0, none⟩) 4 4 ∧ w1.heap[U]? = some (.cells #[.int .u8 92, .int .u8 120, .int .u8 (((⟨#[48, 49, 50, 51, 52, 53, 54, 55, 56, 57, 97, 98, 99, 100, 101, 102]⟩ : ByteArray)[q]'q1).toNat : Int), .int .u8 (((⟨#[48, 49, 50, 51, 52, 53, 54, 55, 56, 57, 97, 98, 99, 100, 101, 102]⟩ : ByteArray)[r]'q2).toNat : Int)] 5 (0, 0)) ∧ wr.heap.size ≤ U := hphi 7 _ 49 rfl rfl
            have hca := Am.frame_out hd hs hoth
            simp only [List.foldl_cons, List.foldl_nil, h42, h49] at hca
            generalize ca.tmps.getD 43 undef = x43 at hca
            generalize ca.tmps.getD 44 undef = x44 at hca
            generalize ca.tmps.getD 45 undef = x45 at hca
            generalize ca.tmps.getD 46 undef = x46 at hca
            generalize ca.tmps.getD 47 undef = x47 at hca
            generalize ca.tmps.getD 48 undef = x48 at hca
            subst hca
            simp only [List.setIfInBounds_toArray, List.set_cons_succ, List.set_cons_zero]
            have hO1 := HO.out.later hb
            have hO2 := hid hO1
            clear hb hd hs hphi hoth h42 h49 hO1
            simp only [Am.LastW]
            refine wp_own_rowAt (t := ⟨#[92, 120, (⟨#[48, 49, 50, 51, 52, 53, 54, 55, 56, 57, 97, 98, 99, 100, 101, 102]⟩ : ByteArray)[q]'q1, (⟨#[48, 49, 50, 51, 52, 53, 54, 55, 56, 57, 97, 98, 99, 100, 101, 102]⟩ : ByteArray)[r]'q2]⟩) rfl _ _ rfl rfl hO2.out hU rfl rfl (by show (preQ s i).size + 4 ≤ _; omega) ?_
            intro v' w' hO'
            clear hU
            go_wp2
            simp only [Am.LastW]
            go_wp2
            go_roundw
            case rel => exact ⟨i + 1, by omega, by go_num, by rw [Hsucc.out, hq.out]; exact hO'⟩
            case measure => simp [intOf]; omega
      · have hx1 : ¬ (b : Int) < 32 := by omega
        have hx2 : ¬ (126 : Int) < (b : Int) := by omega
        have hq := hid (qc_else (c := s[i]) (by omega) (by omega) (by omega) (by omega) (by omega))
        subst hbb
        go_wp2_with (at_builtin; refine wp_own_row (t := ⟨#[s[i]]⟩) rfl _ _ rfl rfl HO.out rfl rfl (by have : (⟨#[s[i]]⟩ : ByteArray).size = 1 := rfl; omega) ?_)
        intro v' w' hO'
        go_wp2
        go_roundw
        case rel => exact ⟨i + 1, by omega, by go_num, by rw [Hsucc.out, hq.out]; exact hO'⟩
        case measure => simp [intOf]; omega
    · obtain rfl : i = s.size := by omega
      have He := hid (preQ_end s)
      have HO := hid hO
      clear hO
      go_wp2_with (at_builtin; refine wp_own_row (t := ⟨#[34]⟩) rfl _ _ rfl rfl HO.out rfl rfl (by have : (⟨#[34]⟩ : ByteArray).size = 1 := rfl; omega) ?_)
      intro v' w' hO'
      rw [He.out] at hO'
      have hc := own_string hO' (by unfold quoteT; simp [ByteArray.size])
      have HB := hid hO'.2.1
      clear hO'
      go_wp2
      go_ret
      exact ⟨rfl, HB.out⟩
end Go.Proofs.YtjchnliaglecoaaGreatDoor
