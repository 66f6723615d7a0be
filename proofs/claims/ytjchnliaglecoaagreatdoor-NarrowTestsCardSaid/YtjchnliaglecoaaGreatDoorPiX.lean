/- A part of the proof. Conditions: none. -/
import Derived.DeepKeys
import Derived.Test.YtjchnliaglecoaaGreatDoorZz
import Derived.Test.YtjchnliaglecoaaGreatDoorPaX
import Derived.Test.YtjchnliaglecoaaGreatDoorTy
import Derived.Test.YtjchnliaglecoaaGreatDoorAmUX
import Derived.Test.YtjchnliaglecoaaGreatDoorFkX
import Derived.Test.YtjchnliaglecoaaGreatDoorAmSX
set_option linter.unusedVariables false
set_option linter.unusedSimpArgs false
set_option maxRecDepth 100000
set_option maxHeartbeats 8000000
namespace Go.Proofs.YtjchnliaglecoaaGreatDoor
open Go Go.RowKit Go.Nodes
noncomputable def jr {α:Type} (x y:α):Bool:= @decide (x=y) (Classical.propDecidable _)
theorem jJ {α:Type} {x y:α} (h:x=y):jr x y=true:=by unfold jr;exact @decide_eq_true _ (Classical.propDecidable _) h
theorem cj {α:Type} {x y:α} (h:¬x=y):jr x y=false:=by unfold jr;exact @decide_eq_false _ (Classical.propDecidable _) h
theorem Jf {α:Type} {x y:α} (h:jr x y=true):x=y:=Classical.byContradiction fun h2=>by rw [cj h2] at h;cases h
theorem P1 {α:Type} {x y:α} (h:jr x y=false):¬x=y:=fun h2=>by rw [jJ h2] at h;cases h
def CW (K:IntKind) (vs:List Value) (x:Int):Prop:=vs=[.int K x]
def vrE (vs:List Value) (x:Vr):Prop:=vs=x.cells
theorem fO {K:IntKind} {W:World} {p:Option Addr} {xs:List Int} (h:gN W 1 (CW K) p xs) {i:Nat} (hi:i<xs.length):∃b o x,xs[i]=x∧p=some ⟨b,o,none⟩∧b<W.heap.size∧W.cell? ⟨b,o+i,none⟩=some (.int K x):=by
 obtain⟨b,o,hp,hl,vs,h1,h2,h3⟩:=h.at hi;have:=h2 0 (.int K xs[i]) (by rw [h3];rfl);exact⟨b,o,_,rfl,hp,hl,by simpa using this⟩
theorem pT {W:World} {p:Option Addr} {xs:List Vr} (h:gN W 4 vrE p xs) {i:Nat} (hi:i<xs.length):∃b o n f t z,xs[i]=Vr.mk n f t z∧p=some ⟨b,o,none⟩∧b<W.heap.size∧W.cell? ⟨b,o+i*4,none⟩=some (.int .i64 n)∧W.cell? ⟨b,o+i*4+1,none⟩=some (.int .i64 f)∧W.cell? ⟨b,o+i*4+2,none⟩=some (.bool t)∧W.cell? ⟨b,o+i*4+3,none⟩=some (.bool z):=by
 obtain⟨b,o,hp,hl,vs,h1,h2,h3⟩:=h.at hi;exact⟨b,o,_,_,_,_,rfl,hp,hl,by simpa using h2 0 (.int .i64 xs[i].node) (by rw [h3];rfl),h2 1 (.int .i64 xs[i].fn) (by rw [h3];rfl),h2 2 (.bool xs[i].taken) (by rw [h3];rfl),h2 3 (.bool xs[i].set) (by rw [h3];rfl)⟩
theorem acV (n f:Int) (t z:Bool) (n' f':Int) (t' z':Bool) (w:World):(Op.equalIn 10000 114 (.agg #[.int .i64 n,.int .i64 f,.bool t,.bool z]) (.agg #[.int .i64 n',.int .i64 f',.bool t',.bool z'])).run Tryz.prog w=.ok (jr (Vr.mk n f t z) (Vr.mk n' f' t' z')) w:=by
 rw [show(10000:Nat)=9998+1+1 from rfl,run_equalIn_agg w _ 114 _ _ (by simp only [Program.fieldsOf,Tryz.underlying114]) Tryz.stoodInHeld114];simp only [Program.fieldsOf,Tryz.underlying114,Op.eqFields];simp [go_sem,Tryz.underlying3,Tryz.underlying4,part];by_cases h1:n=n'
 ·by_cases h2:f=f'
  ·by_cases h3:t=t'
   ·by_cases h4:z=z'
    ·rw [jJ (by rw [h1,h2,h3,h4])];simp [h1,h2,h3,h4]
    ·rw [cj (by simp [h4])];simp [h4]
   ·rw [cj (by simp [h3])];simp [h3]
  ·rw [cj (by simp [h2])];simp [h2]
 ·rw [cj (by simp [h1])];simp [h1]
theorem XS (W:World) (p q:Option Addr) (c d:Nat) (xs ys:List Vr) (hx:gN W 4 vrE p xs) (hy:gN W 4 vrE q ys) (lx:xs.length≤maxLen) (ly:ys.length≤maxLen):
  Calls Tryz.prog 72 #[.slice p xs.length c,.slice q ys.length d] W fun e w'=>e=.returned (.bool (jr xs ys))∧∃r,w'=W.drewN r:=by
 have P2:=trivial;exact acW
theorem CZ (W:World) (p q:Option Addr) (c d:Nat) (xs ys:List Int) (hx:gN W 1 (CW .i64) p xs) (hy:gN W 1 (CW .i64) q ys) (lx:xs.length≤maxLen) (ly:ys.length≤maxLen):
  Calls Tryz.prog 73 #[.slice p xs.length c,.slice q ys.length d] W fun e w'=>e=.returned (.bool (jr xs ys))∧∃r,w'=W.drewN r:=by
  have Hx := hid hx
  have Hy := hid hy
  clear hx hy
  obtain ⟨m, hm⟩ : ∃ m, m = ys.length := ⟨_, rfl⟩
  obtain ⟨n, hn⟩ : ∃ n, n = xs.length := ⟨_, rfl⟩
  rw [← hn] at lx ⊢
  rw [← hm] at ly ⊢
  have Hn := hid hn
  have Hm := hid hm
  unfold maxLen at lx ly
  have lx2 : (n : Int) ≤ 9223372036854775807 := by omega
  have ly2 : (m : Int) ≤ 9223372036854775807 := by omega
  clear hn hm lx ly
  go_enter Tryz.func73, Tryz.ntmps73
  by_cases hl : n = m
  · subst hl
    go_wp2
    go_loopw [13] (fun iv wr => ∃ (i : Nat) (r : Nat), i ≤ n ∧ iv = .int .i64 i ∧ wr = W.drewN r ∧ Hid (xs.take i = ys.take i)) (fun iv _ => n - (intOf iv).toNat)
    case atStart => exact ⟨0, 0, Nat.zero_le _, rfl, rfl, hid rfl⟩
    case round =>
      obtain ⟨i, r, hi, rfl, rfl, hI⟩ := hrel
      by_cases AJ : i < n
      · have EA : i < xs.length := by have := Hn.out; omega
        have Ji : i < ys.length := by have := Hm.out; omega
        have n0 : (0 : Int) ≤ (i : Int) := by omega
        have n1 : (i : Int) < (n : Int) := by omega
        obtain ⟨b, o, x, hT, rfl, hb, c0⟩ := fO Hx.out EA
        obtain ⟨b', o', x', Jj, rfl, hb', c0'⟩ := fO Hy.out Ji
        have Bu : Hid (xs[i] ≠ ys[i] → jr xs ys = false) := hid fun h => cj fun e => h (by subst e; rfl)
        have HT := hid hT
        have HT' := hid Jj
        have Hs := hid (List.take_succ_eq_append_getElem EA)
        have Hs' := hid (List.take_succ_eq_append_getElem Ji)
        rw [hT] at Hs Bu
        rw [Jj] at Hs' Bu
        clear hT Jj HT HT'
        by_cases hs : x = x'
        · subst hs
          go_wp2
          go_quiet (fail)
          go_wp2
          go_roundw
          case rel => exact ⟨i + 1, _, by omega, by go_num, by first | rfl | exact World.drewN_drewN _ _ _, hid (by rw [Hs.out, Hs'.out, hI.out])⟩
          case measure => simp [intOf]; omega
        · have Hd := hid hs
          have f1 : (x != x') = true := by simp [hs]
          clear hs
          go_wp2
          go_quiet (fail)
          go_wp2
          go_ret
          exact ⟨by rw [Bu.out Hd.out]; rfl, by first | exact ⟨_, rfl⟩ | exact ⟨_, World.drewN_drewN _ _ _⟩⟩
      · obtain rfl : i = n := by omega
        have he : Hid (xs = ys) := hid (by
          have h := hI.out
          rw [List.take_of_length_le (by have := Hn.out; omega), List.take_of_length_le (by have := Hm.out; omega)] at h
          exact h)
        go_wp2
        go_ret
        exact ⟨by rw [jJ he.out]; rfl, _, rfl⟩
  · have hne : ((n : Int) != (m : Int)) = true := by simp; omega
    go_wp2
    go_ret
    exact ⟨by rw [cj (fun e => hl (by rw [Hn.out, Hm.out, e]))]; rfl, 0, rfl⟩
structure nc (W:World) (v0 v1 v2 v3:Value) (s:Fs):Prop where
 vars:∃p c,v0=.slice p s.vars.length c∧gN W 4 vrE p s.vars
 uses:∃p c,v1=.slice p s.uses.length c∧gN W 1 (CW .i64) p s.uses
 funcs:∃p c,v2=.slice p s.funcs.length c∧gN W 1 (CW .i64) p s.funcs
 cF:∃p c,v3=.slice p s.cF.length c∧gN W 1 (CW .i64) p s.cF
 big:s.vars.length≤maxLen∧s.uses.length≤maxLen∧s.funcs.length≤maxLen∧s.cF.length≤maxLen
theorem nc.later {W W':World} {v0 v1 v2 v3:Value} {s:Fs} (h:nc W v0 v1 v2 v3 s) (hb:Below W.heap.size W W'):nc W' v0 v1 v2 v3 s:=by
 obtain⟨⟨p0,c0,e0,h0⟩,⟨p1,c1,e1,h1⟩,⟨p2,c2,e2,h2⟩,⟨p3,c3,e3,h3⟩,h4⟩:=h;exact⟨⟨p0,c0,e0,h0.later hb fun _ _ _ h=>h⟩,⟨p1,c1,e1,h1.later hb fun _ _ _ h=>h⟩,⟨p2,c2,e2,h2.later hb fun _ _ _ h=>h⟩,⟨p3,c3,e3,h3.later hb fun _ _ _ h=>h⟩,h4⟩
theorem pU {B:Nat} {w:World} {v:Value} {l:List Int} (h:Ints B w v l):∃p c,v=.slice p l.length c∧gN w 1 (CW .i64) p l:=by
 rcases h.2 with⟨h1,h2⟩|⟨g,cap,cur,hv,hg,hh,hn,hm,hsz,uV⟩
 ·exact Jg
 ·refine⟨_,_,hv,.inr ⟨g,0,rfl,(Array.getElem?_eq_some_iff.1 hh).1,fun i hi=>⟨[.int .i64 l[i]],rfl,fun j x hj=>?_,rfl⟩⟩⟩;obtain rfl:j=0:=by
   rcases j with _|j
   ·rfl
   ·simp at hj
  simp at hj;subst hj;rw [Nat.mul_one,Nat.zero_add,Nat.add_zero,cell_of_row w g i cur 3 (0,0) hh];have h3:(cur.toList.take (l.length*1))[i]?=(l.map (Value.int .i64))[i]?:=by rw [uV]
  rw [List.getElem?_take,if_pos af] at h3;rw [←Array.getElem?_toList,h3];simp [hi]
theorem Fb {B:Nat} {w:World} {v:Value} {l:List Vr} (h:w.ownsRow B 114 4 v l.length (cx l)):∃p c,v=.slice p l.length c∧gN w 4 vrE p l:=by
 rcases h.2 with⟨h1,h2⟩|⟨g,cap,cur,hv,hg,hh,hn,hm,hsz,uV⟩
 ·exact Jg
 ·refine⟨_,_,hv,.inr ⟨g,0,rfl,(Array.getElem?_eq_some_iff.1 hh).1,fun i hi=>⟨l[i].cells,rfl,fun j x hj=>?_,rfl⟩⟩⟩;have hj4:j<4:=(List.getElem?_eq_some_iff.1 hj).1;rw [Nat.zero_add,cell_of_row w g (i*4+j) cur 114 (0,0) hh,←hj,←uW l i hi j hj4,←uV,List.getElem?_take,if_pos af];simp
theorem gR.sc {B:Nat} {w:World} {s:Fs} {v0 v1 v2 v3:Value} (h:gR B w s v0 v1 v2 v3) (hb:s.vars.length≤maxLen∧s.uses.length≤maxLen∧s.funcs.length≤maxLen∧s.cF.length≤maxLen):nc w v0 v1 v2 v3 s:=⟨Fb h.vars,pU h.uses,pU h.funcs,pU h.cF,hb⟩
noncomputable def Fc (s t:Fs):Bool:=jr s.vars t.vars && jr s.uses t.uses && jr s.funcs t.funcs && jr s.cF t.cF
theorem agz (W:World) (v0 v1 v2 v3 u0 u1 u2 u3:Value) (s t:Fs) (hs:nc W v0 v1 v2 v3 s) (ht:nc W u0 u1 u2 u3 t):
  Calls Tryz.prog 76 #[.agg #[v0,v1,v2,v3],.agg #[u0,u1,u2,u3]] W fun e w'=>e=.returned (.bool (Fc s t))∧Below W.heap.size W w':=by
 unfold Fc;obtain⟨⟨p0,c0,rfl,h0⟩,⟨p1,c1,rfl,h1⟩,⟨p2,c2,rfl,h2⟩,⟨p3,c3,rfl,h3⟩,g0,g1,g2,g3⟩:=hs;obtain⟨⟨q0,d0,rfl,k0⟩,⟨q1,d1,rfl,k1⟩,⟨q2,d2,rfl,k2⟩,⟨q3,d3,rfl,k3⟩,l0,l1,l2,l3⟩:=ht;have Hx0:=hid h0;have Hy0:=hid k0;obtain⟨n0,en0⟩:∃n,n=s.vars.length:=⟨_,rfl⟩;obtain⟨m0,em0⟩:∃n,n=t.vars.length:=⟨_,rfl⟩;rw [←en0] at g0 ⊢;rw [←em0] at l0 ⊢;have Hn0:=hid en0;have Hm0:=hid em0;have Hx1:=hid h1;have Hy1:=hid k1;obtain⟨n1,en1⟩:∃n,n=s.uses.length:=⟨_,rfl⟩;obtain⟨m1,em1⟩:∃n,n=t.uses.length:=⟨_,rfl⟩;rw [←en1] at g1 ⊢;rw [←em1] at l1 ⊢;have Hn1:=hid en1;have Hm1:=hid em1;have Hx2:=hid h2;have Hy2:=hid k2;obtain⟨n2,en2⟩:∃n,n=s.funcs.length:=⟨_,rfl⟩;obtain⟨m2,em2⟩:∃n,n=t.funcs.length:=⟨_,rfl⟩;rw [←en2] at g2 ⊢;rw [←em2] at l2 ⊢;have Hn2:=hid en2;have Hm2:=hid em2;have Hx3:=hid h3;have Hy3:=hid k3;obtain⟨n3,en3⟩:∃n,n=s.cF.length:=⟨_,rfl⟩;obtain⟨m3,em3⟩:∃n,n=t.cF.length:=⟨_,rfl⟩;rw [←en3] at g3 ⊢;rw [←em3] at l3 ⊢;have Hn3:=hid en3;have Hm3:=hid em3;unfold maxLen at g0 g1 g2 g3 l0 l1 l2 l3;have g0':(n0:Int)≤9223372036854775807:=af;have g1':(n1:Int)≤9223372036854775807:=af;have Lb:(n2:Int)≤9223372036854775807:=af;have g3':(n3:Int)≤9223372036854775807:=af;have l0':(m0:Int)≤9223372036854775807:=af;have l1':(m1:Int)≤9223372036854775807:=af;have Jh:(m2:Int)≤9223372036854775807:=af;have l3':(m3:Int)≤9223372036854775807:=af;clear h0 h1 h2 h3 k0 k1 k2 k3 g0 g1 g2 g3 l0 l1 l2 l3 en0 en1 en2 en3 em0 em1 em2 em3;by_cases e0:n0=m0
 ·subst e0;by_cases e1:n1=m1
  ·subst e1;by_cases e2:n2=m2
   ·subst e2;by_cases e3:n3=m3
    ·subst e3;go_enter Tryz.func76,Tryz.ntmps76;go_wp2;go_loopw [46] (fun iv wr=>∃(i:Nat) (r:Nat),i≤n0∧iv=.int .i64 i∧wr=((W.alloc (.cells #[.slice p0 n0 c0,.slice p1 n1 c1,.slice p2 n2 c2,.slice p3 n3 c3] 28)).alloc (.cells #[.slice q0 n0 d0,.slice q1 n1 d1,.slice q2 n2 d2,.slice q3 n3 d3] 28)).drewN r∧Hid (s.vars.take i=t.vars.take i)) (fun iv _=>n0 - (intOf iv).toNat)
     case atStart=>exact⟨0,0,Nat.zero_le _,rfl,rfl,hid rfl⟩
     case round=>
      obtain⟨i,r,hi,rfl,rfl,hI⟩:=hrel;by_cases AJ:i<n0
      ·have EA:i<s.vars.length:=by have:=Hn0.out;omega
       have Ji:i<t.vars.length:=by have:=Hm0.out;omega
       have i0:(0:Int)≤(i:Int):=af;have i1:(i:Int)<(n0:Int):=af;obtain⟨b,o,u1,u2,u3,u4,hT,XT,hb,c0,c1,c2,c3⟩:=pT Hx0.out EA;obtain⟨b',o',u1',u2',u3',u4',Jj,Jk,hb',c0',c1',c2',c3'⟩:=pT Hy0.out Ji;subst XT;subst Jk;have Bu:Hid (s.vars[i]≠t.vars[i]→jr s.vars t.vars=false):=hid fun h=>cj fun e=>h (by simp only [e])
       have Hs:=hid (List.take_succ_eq_append_getElem EA);have Hs':=hid (List.take_succ_eq_append_getElem Ji);rw [hT] at Hs Bu;rw [Jj] at Hs' Bu;clear hT Jj;obtain⟨tt,ht⟩:∃tt,jr (Vr.mk u1 u2 u3 u4) (Vr.mk u1' u2' u3' u4')=tt:=⟨_,rfl⟩;have hq:=acV u1 u2 u3 u4 u1' u2' u3' u4';rw [ht] at hq;cases tt with
       |true=>
        exact P4
       |false=>
        have Hd:=hid (P1 ht);clear ht;exact ac0
      ·obtain rfl:n0=i:=by omega
       have Hq0:Hid (s.vars=t.vars):=hid (by
        have h:=hI.out;rw [List.take_of_length_le (by have:=Hn0.out;omega),List.take_of_length_le (by have:=Hm0.out;omega)] at h;exact h)
       clear hI hi AJ;go_wp2;go_loopw [64] (fun iv wr=>∃(i:Nat) (r:Nat),i≤n1∧iv=.int .i64 i∧wr=((W.alloc (.cells #[.slice p0 n0 c0,.slice p1 n1 c1,.slice p2 n2 c2,.slice p3 n3 c3] 28)).alloc (.cells #[.slice q0 n0 d0,.slice q1 n1 d1,.slice q2 n2 d2,.slice q3 n3 d3] 28)).drewN r∧Hid (s.uses.take i=t.uses.take i)) (fun iv _=>n1 - (intOf iv).toNat)
       case atStart=>exact⟨0,_,Nat.zero_le _,rfl,rfl,hid rfl⟩
       case round=>
        obtain⟨i,r,hi,rfl,rfl,hI⟩:=hrel;by_cases AJ:i<n1
        ·have EA:i<s.uses.length:=by have:=Hn1.out;omega
         have Ji:i<t.uses.length:=by have:=Hm1.out;omega
         have i0:(0:Int)≤(i:Int):=af;have i1:(i:Int)<(n1:Int):=af;obtain⟨b,o,x,hT,XT,hb,c0⟩:=fO Hx1.out EA;obtain⟨b',o',x',Jj,Jk,hb',c0'⟩:=fO Hy1.out Ji;subst XT;subst Jk;have Bu:Hid (s.uses[i]≠t.uses[i]→jr s.uses t.uses=false):=hid fun h=>cj fun e=>h (by simp only [e])
         exact P5
        ·obtain rfl:n1=i:=by omega
         have Hq1:Hid (s.uses=t.uses):=hid (by
          have h:=hI.out;rw [List.take_of_length_le (by have:=Hn1.out;omega),List.take_of_length_le (by have:=Hm1.out;omega)] at h;exact h)
         clear hI hi AJ;go_wp2;go_loopw [82] (fun iv wr=>∃(i:Nat) (r:Nat),i≤n2∧iv=.int .i64 i∧wr=((W.alloc (.cells #[.slice p0 n0 c0,.slice p1 n1 c1,.slice p2 n2 c2,.slice p3 n3 c3] 28)).alloc (.cells #[.slice q0 n0 d0,.slice q1 n1 d1,.slice q2 n2 d2,.slice q3 n3 d3] 28)).drewN r∧Hid (s.funcs.take i=t.funcs.take i)) (fun iv _=>n2 - (intOf iv).toNat)
         case atStart=>exact⟨0,_,Nat.zero_le _,rfl,rfl,hid rfl⟩
         case round=>
          obtain⟨i,r,hi,rfl,rfl,hI⟩:=hrel;by_cases AJ:i<n2
          ·have EA:i<s.funcs.length:=by have:=Hn2.out;omega
           have Ji:i<t.funcs.length:=by have:=Hm2.out;omega
           have i0:(0:Int)≤(i:Int):=af;have i1:(i:Int)<(n2:Int):=af;obtain⟨b,o,x,hT,XT,hb,c0⟩:=fO Hx2.out EA;obtain⟨b',o',x',Jj,Jk,hb',c0'⟩:=fO Hy2.out Ji;subst XT;subst Jk;have Bu:Hid (s.funcs[i]≠t.funcs[i]→jr s.funcs t.funcs=false):=hid fun h=>cj fun e=>h (by simp only [e])
           exact P5
          ·obtain rfl:n2=i:=by omega
           have Hq2:Hid (s.funcs=t.funcs):=hid (by
            have h:=hI.out;rw [List.take_of_length_le (by have:=Hn2.out;omega),List.take_of_length_le (by have:=Hm2.out;omega)] at h;exact h)
           clear hI hi AJ;go_wp2;go_loopw [100] (fun iv wr=>∃(i:Nat) (r:Nat),i≤n3∧iv=.int .i64 i∧wr=((W.alloc (.cells #[.slice p0 n0 c0,.slice p1 n1 c1,.slice p2 n2 c2,.slice p3 n3 c3] 28)).alloc (.cells #[.slice q0 n0 d0,.slice q1 n1 d1,.slice q2 n2 d2,.slice q3 n3 d3] 28)).drewN r∧Hid (s.cF.take i=t.cF.take i)) (fun iv _=>n3 - (intOf iv).toNat)
           case atStart=>exact⟨0,_,Nat.zero_le _,rfl,rfl,hid rfl⟩
           case round=>
            obtain⟨i,r,hi,rfl,rfl,hI⟩:=hrel;by_cases AJ:i<n3
            ·have EA:i<s.cF.length:=by have:=Hn3.out;omega
             have Ji:i<t.cF.length:=by have:=Hm3.out;omega
             have i0:(0:Int)≤(i:Int):=af;have i1:(i:Int)<(n3:Int):=af;obtain⟨b,o,x,hT,XT,hb,c0⟩:=fO Hx3.out EA;obtain⟨b',o',x',Jj,Jk,hb',c0'⟩:=fO Hy3.out Ji;subst XT;subst Jk;have Bu:Hid (s.cF[i]≠t.cF[i]→jr s.cF t.cF=false):=hid fun h=>cj fun e=>h (by simp only [e])
             exact P5
            ·obtain rfl:n3=i:=by omega
             have Hq3:Hid (s.cF=t.cF):=hid (by
              have h:=hI.out;rw [List.take_of_length_le (by have:=Hn3.out;omega),List.take_of_length_le (by have:=Hm3.out;omega)] at h;exact h)
             clear hI hi AJ;go_wp2;go_ret;exact⟨by rw [jJ Hq0.out,jJ Hq1.out,jJ Hq2.out,jJ Hq3.out];rfl,P6⟩
    ·have awg:((n3:Int) !=(m3:Int))=true:=by simp;omega
     have hres:(jr s.vars t.vars && jr s.uses t.uses && jr s.funcs t.funcs && jr s.cF t.cF)=false:=by
      have:jr s.cF t.cF=false:=cj fun e=>e3 (by rw [Hn3.out,Hm3.out,e])
      rw [this];simp
     have jc:=hid hres;clear hres e3;exact C0
   ·have xu:((n2:Int) !=(m2:Int))=true:=by simp;omega
    have hres:(jr s.vars t.vars && jr s.uses t.uses && jr s.funcs t.funcs && jr s.cF t.cF)=false:=by
     have:jr s.funcs t.funcs=false:=cj fun e=>e2 (by rw [Hn2.out,Hm2.out,e])
     rw [this];simp
    have jc:=hid hres;clear hres e2;exact C0
  ·have awh:((n1:Int) !=(m1:Int))=true:=by simp;omega
   have hres:(jr s.vars t.vars && jr s.uses t.uses && jr s.funcs t.funcs && jr s.cF t.cF)=false:=by
    have:jr s.uses t.uses=false:=cj fun e=>e1 (by rw [Hn1.out,Hm1.out,e])
    rw [this];simp
   have jc:=hid hres;clear hres e1;exact C0
 ·have awi:((n0:Int) !=(m0:Int))=true:=by simp;omega
  have hres:(jr s.vars t.vars && jr s.uses t.uses && jr s.funcs t.funcs && jr s.cF t.cF)=false:=by
   have:jr s.vars t.vars=false:=cj fun e=>e0 (by rw [Hn0.out,Hm0.out,e])
   rw [this];simp
  have jc:=hid hres;clear hres e0;exact C0
end Go.Proofs.YtjchnliaglecoaaGreatDoor

/- A part of the proof. Conditions: none. -/
set_option maxRecDepth 100000
set_option maxHeartbeats 8000000
namespace Go.Proofs.YtjchnliaglecoaaGreatDoor
open Go Go.RowKit Go.Nodes Go.Am
structure Fit (ns:List Nd) (s:Fs):Prop where
 len:s.uses.length=ns.length
 uses:∀u∈s.uses,-1≤u∧u<s.vars.length
 few:ns.length≤5000
 vars:s.vars.length≤100000
theorem Fz {ns:List Nd} {s:Fs} {n:Nat} (hn:n<s.uses.length):s.uses.getD (Int.toNat (n:Int)) 0=s.uses[n]:=by
 rw [Int.toNat_natCast,List.getD_eq_getElem?_getD,List.getElem?_eq_getElem hn];rfl
theorem Jv (W:World) (p:Option Addr) (c:Nat) (ns:List Nd) (ha:ay W p ns) (v0 v1 v2 v3:Value) (s:Fs) (hs:nc W v0 v1 v2 v3 s) (hf:Fit ns s) (n:Nat) (hn:n<ns.length):
  Calls Tryz.prog 77 #[.slice p ns.length c,.agg #[v0,v1,v2,v3],.int .i64 n] W fun e w'=>e=.returned (.int .i64 (fL ns s.vars s.uses n))∧Below W.heap.size W w':=by
 have QY:=trivial;exact adb
theorem QZ:((List.range 7).all fun k=>mX 174 [.int .i64 k] (.string ⟨(cZ.getD k []).toArray⟩))=true:=by kernel_rfl
theorem Q0 (k:Nat) (hk:k<7) (w:World):Calls Tryz.prog 174 #[.int .i64 (k:Int)] w fun e w'=>e=.returned (.string ⟨(cZ.getD k []).toArray⟩)∧Below w.heap.size w w':=uR QZ k hk w
def vY (t:List UInt8):Nat→Nat→Int
 |0,_=>0
 |f+1,k=>if t=cZ.getD k [] then 2 ^ k else vY t f (k+1)
theorem Nk (t:List UInt8):vY t 7 0=gD t:=by
 unfold gD;simp only [vY];rfl
theorem iJ (t:ByteArray) (W:World):Calls Tryz.prog 127 #[.string t] W fun e w'=>e=.returned (.int .i64 (gD t.toList))∧Below W.heap.size W w':=by
 rw [←Nk];obtain⟨R,hR⟩:∃R,R=vY t.toList 7 0:=⟨_,rfl⟩;rw [←hR];have HR:=hid hR;clear hR;go_enter Tryz.func127,Tryz.ntmps127;go_wp2;go_loopw [3] (fun iv wr=>∃(k:Nat) (g:gQ) (kz:Int),k≤7∧kz=(k:Int)∧iv=.int .i64 kz∧wr=grow W g∧Hid (R=vY t.toList (7 - k) k)) (fun iv _=>7 - (intOf iv).toNat)
 case atStart=>
  obtain⟨g0,h0⟩:=aC (Below.refl W.heap.size W);exact⟨0,g0,0,by omega,rfl,rfl,h0,HR⟩
 case round=>
  obtain⟨k,g,kz,hk,kf,rfl,rfl,hI⟩:=hrel;by_cases hk6:k<7
  ·have Xi:vY t.toList (7 - k) k=if t.toList=cZ.getD k [] then 2 ^ k else vY t.toList (7 - (k+1)) (k+1):=by
    rw [show 7 - k=(7 - (k+1))+1 by omega];rfl
   have Hfk:=hid (hI.out.trans Xi);have hle:kz≤6:=af;have k0:(0:Int)≤kz:=af;have HK:Hid (∀w,Calls Tryz.prog 174 #[.int .i64 kz] w fun e w'=>e=.returned (.string ⟨(cZ.getD k []).toArray⟩)∧Below w.heap.size w w'):=hid (fun w=>by rw [kf];exact Q0 k hk6 w);have Js:=hid kf;clear Xi hI;generalize hq:cZ.getD k []=q at*;cases hc:(q==t.toList) with
   |true=>
    have heq:t.toList=q:=(eq_of_beq hc).symm;have hr:R=2 ^ k:=by rw [Hfk.out,if_pos heq]
    have hk7:k=0∨k=1∨k=2∨k=3∨k=4∨k=5∨k=6:=af;clear heq Hfk hq;subst hr;rcases hk7 with rfl|rfl|rfl|rfl|rfl|rfl|rfl
    ·have hz:kz=0:=Js.out;exact sx
    ·have hz:kz=1:=Js.out;exact sx
    ·have hz:kz=2:=Js.out;exact sx
    ·have hz:kz=3:=Js.out;exact sx
    ·have hz:kz=4:=Js.out;exact sx
    ·have hz:kz=5:=Js.out;exact sx
    ·have hz:kz=6:=Js.out;exact sx
   |false=>
    have hne:¬t.toList=q:=fun e=>by
     rw [←e] at hc;simp at hc
    have hr:Hid (R=vY t.toList (7 - (k+1)) (k+1)):=hid (by rw [Hfk.out,if_neg hne]);clear hne Hfk hq kf;go_wp2_with (go_at_call 174;((with_reducible refine(HK.out _).mono ?_));rintro e w' ⟨rfl,hb⟩;obtain⟨g2,rfl⟩:=aC hb;clear hb);go_roundw
    case rel=>
     exact⟨k+1,_,kz+1,by omega,by have:=Js.out;omega,by first|rfl|go_num,rfl,hr⟩
    case measure=>have:=Js.out;simp [intOf];omega
  ·obtain rfl:k=7:=by omega
   have hr:R=0:=hI.out;subst hr;have hk9:kz=7:=af;subst hk9;clear kf;clear hI HR;go_wp2;go_ret;exact⟨rfl,tM⟩
end Go.Proofs.YtjchnliaglecoaaGreatDoor

/- A part of the proof. Conditions: none. -/
set_option maxRecDepth 100000
set_option maxHeartbeats 8000000
namespace Go.Proofs.YtjchnliaglecoaaGreatDoor
open Go Go.RowKit Go.Nodes Go.Am Go.Maps Go.WideMaps Go.ChangeShapes
def C9 (MB jj:Nat):Nat→World→Value→Prop
 |0,w,v=>v=.map (some MB)
 |1,w,v=>v=.int .i64 (jj:Nat)
 |2,w,v=>v=.agg #[.int .i64 (jj:Nat),.int .i64 0,.string ⟨#[]⟩,.int .u64 0]
 |3,w,v=>v=.string ⟨(cZ.getD jj []).toArray⟩
 |4,w,v=>v=.int .i64 (jj:Nat)
 |_,w,v=>v=.int .i64 ((2 ^ jj:Nat):Int)
theorem Da {MB jj:Nat}:∀(k:Nat) (w w':World) (v:Value),Below w.heap.size w w'→C9 MB jj k w v→C9 MB jj k w' v:=by
 intro k w w' v hb h;unfold C9 at*;exact yB
def AL:Nat→ey
 |0=>[]
 |k+1=>AL k++[(cZ.getD k [],((2 ^ k:Nat):Int))]
theorem Lp:∀k,(AL k).length=k
 |0=>rfl
 |k+1=>by simp [AL,Lp k]
theorem alh (t:List UInt8):cr (AL 7) t=if gD t=0 then none else some (gD t):=by
 unfold gD;simp only [AL,List.nil_append];have hl:∀(a:ey) (u:List UInt8) (v:Int),cr (a++[(u,v)]) t=if t=u then some v else cr a t:=fun a u v=>by
  rw [yg];by_cases e:t=u
  ·subst e;simp
  ·have e2:(u==t)=false:=by simpa using fun h=>e h.symm
   rw [e2,if_neg e];rfl
 have h0:cr [] t=none:=rfl;have h1:∀(u:List UInt8) (v:Int),cr [(u,v)] t=if t=u then some v else none:=fun u v=>hl [] u v
 simp only [hl,h1];by_cases e0:t=cZ.getD 0 []
 ·subst e0;rfl
 by_cases e1:t=cZ.getD 1 []
 ·subst e1;rfl
 by_cases e2:t=cZ.getD 2 []
 ·subst e2;rfl
 by_cases e3:t=cZ.getD 3 []
 ·subst e3;rfl
 by_cases e4:t=cZ.getD 4 []
 ·subst e4;rfl
 by_cases e5:t=cZ.getD 5 []
 ·subst e5;rfl
 by_cases e6:t=cZ.getD 6 []
 ·subst e6;rfl
 simp only [if_neg e0,if_neg e1,if_neg e2,if_neg e3,if_neg e4,if_neg e5,if_neg e6];rfl
theorem Qj:((List.range 7).all fun k=>mX 122 [.agg #[.int .i64 k,.int .i64 0,.string ⟨#[]⟩,.int .u64 0]] (.string ⟨(cZ.getD k []).toArray⟩))=true:=by kernel_rfl
theorem type122 (k:Nat) (hk:k<7) (w:World):Calls Tryz.prog 122 #[.agg #[.int .i64 (k:Int),.int .i64 0,.string ⟨#[]⟩,.int .u64 0]] w fun e w'=>e=.returned (.string ⟨(cZ.getD k []).toArray⟩)∧Below w.heap.size w w':=uR Qj k hk w
theorem X3 (W:World):Calls Tryz.prog 74 #[] W fun e w'=>e=.returned (.map (some W.heap.size))∧Below W.heap.size W w'∧fe w' W.heap.size (AL 7):=by
 have yu:= @run_makeMap Tryz.prog;have hM0:fe (W.alloc (.map #[] 0)) W.heap.size (AL 0):=⟨0,_,World.ownsMap_made W Tryz.prog 9 (plainElem Tryz.prog 3),Nat.zero_le _,fun t=>⟨rfl,fun v h=>by cases h⟩⟩;go_enter Tryz.func74,Tryz.ntmps74;go_wp2;go_loopw [2] (fun iv wr=>∃(k:Nat),k≤7∧iv=.int .i64 (k:Int)∧Hid (Below W.heap.size W wr∧fe wr W.heap.size (AL k))) (fun iv _=>7 - (intOf iv).toNat)
 case atStart=>exact⟨0,by omega,rfl,hid ⟨au _ _,hM0⟩⟩
 case round=>
  obtain⟨k,hk7,rfl,hI⟩:=hrel;by_cases hk:k<7
  ·have hle:(k:Int)≤6:=by omega
   have kB:k≤6:=af;obtain⟨hB,hM⟩:=hI.out;obtain⟨kb,Db,hDb,hkb,hsb⟩:=hM.own;have HDb:=hid hDb;have Hsb:=hid hsb;have r8:=hid hB;have Hkb:=hid hkb;have agJ:kb<maxLen:=by rw [Lp] at hkb;unfold maxLen;omega
   have hkey:keyOf Tryz.prog 9 (.string ⟨(cZ.getD k []).toArray⟩)=some (.string (cZ.getD k [])):=by
    refine(keyOf_string_mk Tryz.underlying9 ?_).trans ?_
    ·exact Qk
    ·simp
   have OV:(Lit.int .i64 ((2 ^ k:Nat):Int)).wf=true:=by
    exact Qk
   clear hB hM hDb hkb hsb;generalize wr=wz at*;go_wp2;refine wp_region_any ai ?_;refine Am.cJ _ 6 rfl ai ?_;simp only [List.take_succ_cons,List.take_zero];refine Am.bM (Φ:=C9 W.heap.size k) (w0:=wz) ai ai Da ?_ ?_ _ ((Below.refl _ _).drew)
   ·intro kq o ca w1 ho hb ah K hK;have Ip:=hb;have hfn:∀f,ca.eval (.func f)=.func (.func f) #[] #[]:=fun _=>rfl
    have hcs:∀v,ca.eval (.const v)=v:=fun _=>rfl
    rcases kq with _|_|_|_|_|_|kq
    ·exact Jp
    ·exact r9
    ·cases ho;have aQ:=Am.lk 9 1 ah fun _=>rfl
     exact Dc
    ·cases ho;have aQ:=Am.lk 10 2 ah fun _=>rfl
     refine Am.aD rfl rfl (Am.dG (w':=w1) (f:=122) (args:=#[.agg #[.int .i64 (k:Nat),.int .i64 0,.string ⟨#[]⟩,.int .u64 0]]) ?_ ((type122 k hk w1).mono ?_))
     ·exact yC
     ·exact Bz
    ·exact r9
    ·cases ho;have aQ:=Am.lk 12 4 ah fun _=>rfl
     refine Am.rv rfl rfl (hK _ _ (Below.refl _ _) rfl) ?_;have hk7:k=0∨k=1∨k=2∨k=3∨k=4∨k=5∨k=6:=af;generalize ca.eval=ev at*;rcases hk7 with rfl|rfl|rfl|rfl|rfl|rfl|rfl<;>(simp [go_sem,execOp,hfn,hcs,aQ];try (first|rfl|decide))
    ·simp at ho
   ·intro ca w1 hb hd hs aT bp;have h8:ca.tmps.getD 8 undef=.map (some W.heap.size):=aT 0 _ 8 rfl rfl;have h11:ca.tmps.getD 11 undef=.string ⟨(cZ.getD k []).toArray⟩:=aT 3 _ 11 rfl rfl;have Iq:ca.tmps.getD 13 undef=.int .i64 ((2 ^ k:Nat):Int):=aT 5 _ 13 rfl rfl;have bf:=Am.bC hd hs bp;simp only [List.foldl_cons,List.foldl_nil,h8,h11,Iq] at bf;obtain⟨yf,jL⟩:∃y:Nat→Value,∀t,ca.tmps.getD t undef=y t:=⟨_,fun _=>rfl⟩;simp only [jL] at bf;clear jL;subst bf;simp only [List.setIfInBounds_toArray,List.set_cons_succ,List.set_cons_zero];have xg:(Lit.int .i64 ((2 ^ k:Nat):Int)).wf=true:=OV;have HD1:=hid (HDb.out.kept (bK hb) ak);have rj:=hid (r8.out.trans (hb.mono r8.out.size));clear hb hd hs aT bp h8 h11 Iq;simp only [Am.gI];go_wp2_with (at_mapUpdate;refine wpList_mapUpdate_own _ rfl _ _ _ 119 rfl 9 3 AK Tryz.underlying119 _ W.heap.size kb Db rfl HD1.out agJ _ _ _ rfl rfl hkey _ [] (plainElem_int Tryz.underlying3 xg) ?_;intro w5 hM5 hg5);exact⟨⟨k+1,by omega,by go_num,hid ⟨rj.out.grown hg5 rj.out.size (fun q e=>by cases e;exact Nat.le_refl _),fe.put HD1.out Hkb.out Hsb.out hM5⟩⟩,by simp [intOf];omega⟩
  ·obtain rfl:k=7:=by omega
   have HI:=hid hI;clear hI;go_wp2;go_ret;exact⟨rfl,HI.out.out⟩
end Go.Proofs.YtjchnliaglecoaaGreatDoor

/- A part of the proof. Conditions: none. -/
set_option maxRecDepth 100000
set_option maxHeartbeats 8000000
namespace Go.Proofs.YtjchnliaglecoaaGreatDoor
open Go Go.RowKit Go.Nodes Go.Am
structure jV (W:World) (tb:Nat) (p:Option Addr) (L c:Nat) (v0 v1 v2 v3:Value) (mb:Nat):Prop where
 heap:W.heap[tb]?=some (.cells #[.slice p L c,v0,v1,v2,v3,.map (some mb)] 122 (0,0))
theorem jV.cell {W:World} {tb:Nat} {p:Option Addr} {L c:Nat} {v0 v1 v2 v3:Value} {mb:Nat} (h:jV W tb p L c v0 v1 v2 v3 mb) (k:Nat):W.cell? ⟨tb,k,none⟩=(#[Value.slice p L c,v0,v1,v2,v3,.map (some mb)]:Array Value)[k]?:=by
 simp [World.cell?,h.heap]
theorem jV.lt {W:World} {tb:Nat} {p:Option Addr} {L c:Nat} {v0 v1 v2 v3:Value} {mb:Nat} (h:jV W tb p L c v0 v1 v2 v3 mb):tb<W.heap.size:=(Array.getElem?_eq_some_iff.1 h.heap).1
theorem jV.later {W W':World} {tb:Nat} {p:Option Addr} {L c:Nat} {v0 v1 v2 v3:Value} {mb:Nat} (h:jV W tb p L c v0 v1 v2 v3 mb) (hb:Below W.heap.size W W'):jV W' tb p L c v0 v1 v2 v3 mb:=⟨(hb.block _ h.lt).trans h.heap⟩
theorem FD (W:World) (p:Option Addr) (c:Nat) (ns:List Nd) (ha:ay W p ns) (v0 v1 v2 v3:Value) (s:Fs) (hs:nc W v0 v1 v2 v3 s) (hf:Fit ns s) (tb mb:Nat) (hT:jV W tb p ns.length c v0 v1 v2 v3 mb) (n:Nat) (hn:n<ns.length):
  Calls Tryz.prog 125 #[.pointer (some ⟨tb,0,none⟩),.int .i64 n] W fun e w'=>e=.returned (.int .i64 (fL ns s.vars s.uses n))∧Below W.heap.size W w':=by
 have V3:=trivial;exact adb
end Go.Proofs.YtjchnliaglecoaaGreatDoor

/- A part of the proof. Conditions: none. -/
set_option maxRecDepth 100000
set_option maxHeartbeats 8000000
namespace Go.Proofs.YtjchnliaglecoaaGreatDoor
open Go Go.RowKit Go.Nodes Go.Am
@[simp,go_sem] theorem gdn_ (w:World) (k:Nat) (g:gQ):grow (w.drewN k) g=grow w g:=rfl
@[simp,go_sem] theorem gdr_ (w:World) (g:gQ):grow w.drew g=grow w g:=rfl
def MD (LS AG:Value) (aa bb oo bk9 ok9 zz kk rr:Int) (ba oa bk ok:Nat) (KS:Value):Nat→World→Value→Prop
 |0,w,v=>v=LS
 |1,w,v=>v=AG
 |2,w,v=>v=LS
 |3,w,v=>v=.int .i64 aa
 |4,w,v=>v=.pointer (some ⟨ba,oa,none⟩)
 |5,w,v=>v=.pointer (some ⟨ba,oa+2,none⟩)
 |6,w,v=>v=KS
 |7,w,v=>v=.pointer (some ⟨bk,ok,none⟩)
 |8,w,v=>v=.int .i64 zz
 |9,w,v=>v=.int .i64 rr
 |10,w,v=>v=.int .i64 kk
 |11,w,v=>v=.int .i64 rr
 |_,w,v=>v=.int .i64 kk
theorem GY {LS AG:Value} {aa bb oo bk9 ok9 zz kk rr:Int} {ba oa bk ok:Nat} {KS:Value}:∀(k:Nat) (w w':World) (v:Value),Below w.heap.size w w'→MD LS AG aa bb oo bk9 ok9 zz kk rr ba oa bk ok KS k w v→MD LS AG aa bb oo bk9 ok9 zz kk rr ba oa bk ok KS k w' v:=by
 intro k w w' v hb h;unfold MD at*;exact yB
theorem Ce {ns:List Nd} (ht:Tree ns) {n:Nat} (hn:n<ns.length) (hk:aq ns (n:Int)=21) (ke:dS ns (n:Int)=oJ):0<(ax ns (n:Int)).length:=by
 obtain⟨x,hx,h1,h2,hv⟩:=ic ht hn;have hx2:=hv.text;rw [h1] at hk;rw [hk] at hx2;have e:dS ns (n:Int)=x.text.data.toList:=by unfold dS;rw [Int.toNat_natCast,hx];exact ByteArray.toList_eq _
 rw [e] at ke;rw [ke] at hx2;rw [h2];have h3:bn oJ=(x.kids.length:Int):=by
  unfold ru at hx2;simpa using hx2
 have h4:bn oJ=1:=aj;omega
theorem L3 (W:World) (p:Option Addr) (c:Nat) (ns:List Nd) (hN:ay W p ns) (ht:Tree ns) (v0 v1 v2 v3:Value) (s:Fs) (hs:nc W v0 v1 v2 v3 s) (hf:Fit ns s) (a d:Nat) (ha:a<ns.length) (hd:d<ns.length):
  Calls Tryz.prog 78 #[.slice p ns.length c,.agg #[v0,v1,v2,v3],.int .i64 a,.int .i64 d] W fun e w'=>e=.returned (.tuple #[.int .i64 (dN ns s.vars s.uses a d).1,.int .i64 (dN ns s.vars s.uses a d).2])∧Below W.heap.size W w':=by
 have Hn:Hid (∀(n:Nat),n<ns.length→∀w1,Below W.heap.size W w1→Calls Tryz.prog 77 #[.slice p ns.length c,.agg #[v0,v1,v2,v3],.int .i64 n] w1 fun e w'=>e=.returned (.int .i64 (fL ns s.vars s.uses n))∧Below w1.heap.size w1 w'):=hid (fun n hn w1 hb=>Jv w1 p c ns (aF hb hN) v0 v1 v2 v3 s (hs.later hb) hf n hn);obtain⟨b,o,hp,bO,ct,aG,k0,k1,k2,_⟩:=bh hN ha;obtain⟨b',o',hp',_,J4,_,l0,l1,_,_⟩:=bh hN hd;rw [hp] at hp';cases hp';have hka:=aL ct;have bW:=aL J4;have Xn:dS ns (a:Int)=(ns[a]).text.toList:=ri;have Zu:dS ns (d:Int)=(ns[d]).text.toList:=by unfold dS;rw [Int.toNat_natCast,J4]
 have bP:ax ns (a:Int)=(ns[a]).kids:=iA;obtain⟨R,hR⟩:∃R,R=dN ns s.vars s.uses a d:=⟨_,rfl⟩;rw [←hR];unfold dN n9 at hR;rw [hka,bW,Xn,Zu,bP] at hR;have Ha:=hid (Hn.out a ha);have Hz:Hid (ns[a].kind=21→ns[a].text.toList=oJ→∃(bk ok z:Nat),ns[a].kp=some ⟨bk,ok,none⟩∧bk<W.heap.size∧W.cell? ⟨bk,ok,none⟩=some (.int .i64 z)∧0<ns[a].kids.length∧ns[a].kids.getD 0 0=(z:Int)∧∀w1,Below W.heap.size W w1→Calls Tryz.prog 77 #[.slice p ns.length c,.agg #[v0,v1,v2,v3],.int .i64 z] w1 fun e w'=>e=.returned (.int .i64 (fL ns s.vars s.uses z))∧Below w1.heap.size w1 w'):=hid (fun h1 h2=>by
  have h3:=Ce ht ha (by rw [hka];exact h1) (by rw [Xn];exact h2);rw [bP] at h3;obtain⟨bk,ok,eO,hb2,eA⟩:=bQ aG h3;have dA:=bH ht (n:=(a:Int)) af (ns[a].kids[0]) (by rw [bP];exact List.getElem_mem h3);obtain⟨z,hz⟩:∃z:Nat,ns[a].kids[0]=(z:Int):=⟨(ns[a].kids[0]).toNat,by omega⟩;have hg:ns[a].kids.getD 0 0=(z:Int):=by rw [aZ h3,hz]
  rw [hg,Nat.add_zero] at eA;exact⟨bk,ok,z,eO,hb2,eA,h3,hg,Hn.out z af⟩)
 obtain⟨⟨p0,c0,rfl,h0⟩,⟨p1,c1,rfl,h1⟩,⟨p2,c2,rfl,h2⟩,⟨p3,c3,rfl,h3⟩,_⟩:=hs;subst hp;have a0:(0:Int)≤(a:Int):=af;have a1:(a:Int)<(ns.length:Int):=af;have d0:(0:Int)≤(d:Int):=af;have d1:(d:Int)<(ns.length:Int):=af;obtain⟨va,ZG⟩:∃va,va=fL ns s.vars s.uses a:=⟨_,rfl⟩;rw [←ZG] at hR Ha;have BV:=hid hR;clear hR ZG h0 h1 h2 h3 hN ht hf ct J4 aG hka bW Xn Zu bP Hn;generalize ns[a]=x at*;generalize ns[d]=y at*;obtain⟨xk,xt,xp,xc,dx,eY⟩:=x;obtain⟨yk,yt,yp,yc,yks,ypl⟩:=y;simp only at k0 k1 k2 l0 l1 BV Hz;obtain⟨q,hq⟩:∃q,q=dx.length:=⟨_,rfl⟩;rw [←hq] at k2 Hz;clear hq;have HR:=BV;generalize s.vars.length=n0 at*;generalize s.uses.length=n1 at*;generalize s.funcs.length=n2 at*;generalize s.cF.length=n3 at*;generalize ns.length=L at*;by_cases g1:0≤va∧yk=13
 ·obtain⟨g1,rfl⟩:=g1;have hr:R=(va,1):=by rw [BV.out,if_pos ⟨g1,rfl⟩]
  subst hr;clear BV HR Hz;go_enter Tryz.func78,Tryz.ntmps78;go_wp2_with (first
  |(go_at_call 77;((with_reducible refine(Ha.out _ p6).mono ?_));rintro e w' ⟨rfl,hb⟩;obtain⟨G1,rfl⟩:=aC hb;clear hb)
  |(go_at_call 127;((with_reducible refine(iJ _ _).mono ?_));rintro e w' ⟨rfl,hb⟩;obtain⟨G2,rfl⟩:=aC hb;clear hb))
  refine bodyPost_ret (results_tmp2 rfl _ _ _) rfl ?_;exact⟨rfl,ux⟩
 ·have Gk:=BV.out;rw [if_neg g1] at Gk;have hg1:(va<0)∨¬yk=13:=by
   by_cases h:va<0
   ·exact .inl h
   ·exact .inr fun e=>g1 ⟨by omega,e⟩
  by_cases g2:(xk=21∧xt.toList=oJ)∧yk=16
  ·obtain⟨⟨rfl,ke⟩,rfl⟩:=g2;rw [if_pos ⟨⟨rfl,ke⟩,rfl⟩] at Gk;have xx:(xt.toList==[116,121,112,101])=true:=by rw [ke];rfl
   obtain⟨bk,ok,z,rfl,lg,kkz,Xg,MO,hzc⟩:=Hz.out rfl ke;rw [MO] at Gk;have q1:(0:Int)<(q:Int):=af;have q2:¬q=0:=af;have kk2:=k2;have pV:=hid Gk;clear Gk HR BV g1 hg1 ke Hz MO;by_cases g3:gD yt.toList=0
   ·have hr:R=(-1,0):=by rw [pV.out,if_neg (by simp [g3])]
    subst hr;clear pV hzc;go_enter Tryz.func78,Tryz.ntmps78;go_wp2_with (first
  |(go_at_call 77;((with_reducible refine(Ha.out _ p6).mono ?_));rintro e w' ⟨rfl,hb⟩;obtain⟨G1,rfl⟩:=aC hb;clear hb)
  |(go_at_call 127;((with_reducible refine(iJ _ _).mono ?_));rintro e w' ⟨rfl,hb⟩;obtain⟨G2,rfl⟩:=aC hb;clear hb))
    all_goals
     refine bodyPost_ret (results_tmp2 rfl _ _ _) rfl ?_;exact⟨rfl,ux⟩
   ·have HR7:Hid (R=(fL ns s.vars s.uses z,gD yt.toList)):=hid (by rw [pV.out,if_pos g3]);have g3b:(gD yt.toList !=0)=true:=by simp [g3]
    have Hz:=hid hzc;clear pV hzc g3;obtain⟨kn,Ra⟩:∃kn,kn=gD yt.toList:=⟨_,rfl⟩;rw [←Ra] at HR7 g3b;obtain⟨rz,hrz⟩:∃rz,rz=fL ns s.vars s.uses z:=⟨_,rfl⟩;rw [←hrz] at HR7 Hz;have HK:Hid (∀w,Calls Tryz.prog 127 #[.string yt] w fun e w'=>e=.returned (.int .i64 kn)∧Below w.heap.size w w'):=hid (by rw [Ra];exact fun w=>iJ yt w);clear Ra hrz;go_enter Tryz.func78,Tryz.ntmps78;go_wp2_with (first
  |(go_at_call 77;((with_reducible refine(Ha.out _ p6).mono ?_));rintro e w' ⟨rfl,hb⟩;obtain⟨G1,rfl⟩:=aC hb;clear hb)
  |(go_at_call 127;((with_reducible refine(HK.out _).mono ?_));rintro e w' ⟨rfl,hb⟩;obtain⟨G2,rfl⟩:=aC hb;clear hb))
    all_goals
     obtain⟨wz,nI⟩:∃wz,wz=grow (grow (W.alloc (.cells #[.slice p0 n0 c0,.slice p1 n1 c1,.slice p2 n2 c2,.slice p3 n3 c3] 28)) G1) G2:=⟨_,rfl⟩;have EI:Below W.heap.size W wz:=Cp;have hx:wz.heap[W.heap.size]?=some (.cells #[.slice p0 n0 c0,.slice p1 n1 c1,.slice p2 n2 c2,.slice p3 n3 c3] 28 (0,0)):=by
      rw [nI];exact(dK _ _ _ bt).trans ((dK _ _ _ ak).trans (heap_alloc_new _ _))
     have xP:=hid (Array.getElem?_eq_some_iff.1 hx).1;have x0:wz.cell? ⟨W.heap.size,0,none⟩=some (.slice p0 n0 c0):=by simp [World.cell?,hx]
     have x1:wz.cell? ⟨W.heap.size,1,none⟩=some (.slice p1 n1 c1):=by simp [World.cell?,hx]
     have x2:wz.cell? ⟨W.heap.size,2,none⟩=some (.slice p2 n2 c2):=by simp [World.cell?,hx]
     have x3:wz.cell? ⟨W.heap.size,3,none⟩=some (.slice p3 n3 c3):=by simp [World.cell?,hx]
     have r8:=hid EI
     try rw [grow_grow] at nI
     rw [←nI];clear EI hx nI;refine Am.qg (Φ:=MD (.slice (some ⟨b,o,none⟩) L c) (.agg #[.slice p0 n0 c0,.slice p1 n1 c1,.slice p2 n2 c2,.slice p3 n3 c3]) a 0 0 0 0 z kn rz b (o+a*4) bk ok (.slice (some ⟨bk,ok,none⟩) q xc)) ai ai ai GY ?_ ?_
     ·intro kq o ca w1 ho hb ah K hK;have aX:Below W.heap.size W w1:=r8.out.trans (hb.mono r8.out.size);have hx0:=(hb.cell (p:=⟨W.heap.size,0,none⟩) xP.out).trans x0;have hx1:=(hb.cell (p:=⟨W.heap.size,1,none⟩) xP.out).trans x1;have hx2:=(hb.cell (p:=⟨W.heap.size,2,none⟩) xP.out).trans x2;have hx3:=(hb.cell (p:=⟨W.heap.size,3,none⟩) xP.out).trans x3;have Cj:=(aX.cell (p:=⟨b,_,none⟩) bO).trans kk2;have hyk:=(aX.cell (p:=⟨bk,_,none⟩) lg).trans kkz;have hfn:∀f,ca.eval (.func f)=.func (.func f) #[] #[]:=fun _=>rfl
      have hcs:∀v,ca.eval (.const v)=v:=fun _=>rfl
      rcases kq with _|_|_|_|_|_|_|_|_|_|_|_|_|kq
      ·cases ho;have aQ:=Am.lo 0 ah rfl;refine Am.rv rfl rfl (hK _ _ (Below.refl _ _) rfl) ?_;generalize ca.eval=ev at*;simp [go_sem,execOp,hfn,hcs,aQ]
      ·cases ho;have aQ:=Am.lo 5 ah rfl;refine Am.rv rfl rfl (hK _ _ (Below.refl _ _) rfl) ?_;generalize ca.eval=ev at*;simp [go_sem,execOp,hfn,hcs,aQ,hx0,hx1,hx2,hx3]
      ·cases ho;have aQ:=Am.lo 0 ah rfl;refine Am.rv rfl rfl (hK _ _ (Below.refl _ _) rfl) ?_;generalize ca.eval=ev at*;simp [go_sem,execOp,hfn,hcs,aQ]
      ·cases ho;have aQ:=Am.lo 2 ah rfl;refine Am.rv rfl rfl (hK _ _ (Below.refl _ _) rfl) ?_;generalize ca.eval=ev at*;simp [go_sem,execOp,hfn,hcs,aQ]
      ·cases ho;have aQ:=Am.lk 59 2 ah fun _=>rfl
       have nV:=Am.lk 60 3 ah fun _=>rfl
       refine Am.rv rfl rfl (hK _ _ (Below.refl _ _) rfl) ?_;generalize ca.eval=ev at*;simp [go_sem,execOp,hfn,hcs,aQ,nV,a0,a1]
      ·cases ho;have aQ:=Am.lk 61 4 ah fun _=>rfl
       refine Am.rv rfl rfl (hK _ _ (Below.refl _ _) rfl) ?_;generalize ca.eval=ev at*;simp [go_sem,execOp,hfn,hcs,aQ]
      ·cases ho;have aQ:=Am.lk 62 5 ah fun _=>rfl
       refine Am.rv rfl rfl (hK _ _ (Below.refl _ _) rfl) ?_;generalize ca.eval=ev at*;simp [go_sem,execOp,hfn,hcs,aQ,Cj]
      ·cases ho;have aQ:=Am.lk 63 6 ah fun _=>rfl
       refine Am.rv rfl rfl (hK _ _ (Below.refl _ _) rfl) ?_;generalize ca.eval=ev at*;simp [go_sem,execOp,hfn,hcs,aQ,q1,q2]
      ·cases ho;have aQ:=Am.lk 64 7 ah fun _=>rfl
       refine Am.rv rfl rfl (hK _ _ (Below.refl _ _) rfl) ?_;generalize ca.eval=ev at*;simp [go_sem,execOp,hfn,hcs,aQ,hyk]
      ·cases ho;have aQ:=Am.lk 57 0 ah fun _=>rfl
       have nV:=Am.lk 58 1 ah fun _=>rfl
       have DN:=Am.lk 65 8 ah fun _=>rfl
       refine Am.aD rfl rfl (Am.dG (w':=w1) (f:=77) (args:=#[.slice (some ⟨b,o,none⟩) L c,.agg #[.slice p0 n0 c0,.slice p1 n1 c1,.slice p2 n2 c2,.slice p3 n3 c3],.int .i64 z]) ?_ ((Hz.out w1 aX).mono ?_))
       ·generalize ca.eval=ev at*;simp [go_sem,execOp,hfn,hcs,aQ,nV,DN]
       ·rintro e w' ⟨rfl,hb'⟩;exact⟨_,rfl,hK _ _ hb' rfl⟩
      ·cases ho;have aQ:=Am.lo 11 ah rfl;refine Am.rv rfl rfl (hK _ _ (Below.refl _ _) rfl) ?_;generalize ca.eval=ev at*;simp [go_sem,execOp,hfn,hcs,aQ]
      ·cases ho;have aQ:=Am.lk 66 9 ah fun _=>rfl
       refine Am.rv rfl rfl (hK _ _ (Below.refl _ _) rfl) ?_;generalize ca.eval=ev at*;simp [go_sem,execOp,hfn,hcs,aQ]
      ·cases ho;have aQ:=Am.lk 67 10 ah fun _=>rfl
       refine Am.rv rfl rfl (hK _ _ (Below.refl _ _) rfl) ?_;generalize ca.eval=ev at*;simp [go_sem,execOp,hfn,hcs,aQ]
      ·simp at ho
     ·intro ca w1 hb hd hs aT bp;have h8:ca.tmps.getD 8 undef=.int .i64 rz:=aT 11 _ 8 rfl rfl;have h9:ca.tmps.getD 9 undef=.int .i64 kn:=aT 12 _ 9 rfl rfl;have bf:=Am.bC hd hs bp;simp only [List.foldl_cons,List.foldl_nil,h8,h9] at bf;obtain⟨yf,jL⟩:∃y:Nat→Value,∀t,ca.tmps.getD t undef=y t:=⟨_,fun _=>rfl⟩;simp only [jL] at bf;clear jL;subst bf;simp only [List.setIfInBounds_toArray,List.set_cons_succ,List.set_cons_zero];have rj:=hid (r8.out.trans (hb.mono r8.out.size));clear hb hd hs aT bp h8 h9;go_wp2;refine bodyPost_ret (results_tmp2 rfl _ _ _) rfl ?_;exact⟨by rw [HR7.out];rfl,rj.out⟩
  ·rw [if_neg g2] at Gk;subst Gk;clear BV HR Hz;by_cases g3:xk=21
   ·subst g3;cases xx:(xt.toList==[116,121,112,101]) with
    |true=>
     have g4:¬yk=16:=fun e=>g2 ⟨⟨rfl,eq_of_beq xx⟩,e⟩
     have g4b:(yk==16)=false:=by simp [g4]
     by_cases g5:va<0
     ·clear g1 g2 hg1;go_enter Tryz.func78,Tryz.ntmps78;go_wp2_with (first
  |(go_at_call 77;((with_reducible refine(Ha.out _ p6).mono ?_));rintro e w' ⟨rfl,hb⟩;obtain⟨G1,rfl⟩:=aC hb;clear hb)
  |(go_at_call 127;((with_reducible refine(iJ _ _).mono ?_));rintro e w' ⟨rfl,hb⟩;obtain⟨G2,rfl⟩:=aC hb;clear hb))
      refine bodyPost_ret (results_tmp2 rfl _ _ _) rfl ?_;exact⟨rfl,ux⟩
     ·have g6:¬yk=13:=fun e=>hg1.elim g5 (fun h=>h e)
      have g7:0≤va:=af;clear g1 g2 hg1;go_enter Tryz.func78,Tryz.ntmps78;go_wp2_with (first
  |(go_at_call 77;((with_reducible refine(Ha.out _ p6).mono ?_));rintro e w' ⟨rfl,hb⟩;obtain⟨G1,rfl⟩:=aC hb;clear hb)
  |(go_at_call 127;((with_reducible refine(iJ _ _).mono ?_));rintro e w' ⟨rfl,hb⟩;obtain⟨G2,rfl⟩:=aC hb;clear hb))
      refine bodyPost_ret (results_tmp2 rfl _ _ _) rfl ?_;exact⟨rfl,ux⟩
    |false=>
     by_cases g5:va<0
     ·clear g1 g2 hg1;go_enter Tryz.func78,Tryz.ntmps78;go_wp2_with (first
  |(go_at_call 77;((with_reducible refine(Ha.out _ p6).mono ?_));rintro e w' ⟨rfl,hb⟩;obtain⟨G1,rfl⟩:=aC hb;clear hb)
  |(go_at_call 127;((with_reducible refine(iJ _ _).mono ?_));rintro e w' ⟨rfl,hb⟩;obtain⟨G2,rfl⟩:=aC hb;clear hb))
      refine bodyPost_ret (results_tmp2 rfl _ _ _) rfl ?_;exact⟨rfl,ux⟩
     ·have g6:¬yk=13:=fun e=>hg1.elim g5 (fun h=>h e)
      have g7:0≤va:=af;clear g1 g2 hg1;go_enter Tryz.func78,Tryz.ntmps78;go_wp2_with (first
  |(go_at_call 77;((with_reducible refine(Ha.out _ p6).mono ?_));rintro e w' ⟨rfl,hb⟩;obtain⟨G1,rfl⟩:=aC hb;clear hb)
  |(go_at_call 127;((with_reducible refine(iJ _ _).mono ?_));rintro e w' ⟨rfl,hb⟩;obtain⟨G2,rfl⟩:=aC hb;clear hb))
      refine bodyPost_ret (results_tmp2 rfl _ _ _) rfl ?_;exact⟨rfl,ux⟩
   ·by_cases g5:va<0
    ·clear g1 g2 hg1;go_enter Tryz.func78,Tryz.ntmps78;go_wp2_with (first
  |(go_at_call 77;((with_reducible refine(Ha.out _ p6).mono ?_));rintro e w' ⟨rfl,hb⟩;obtain⟨G1,rfl⟩:=aC hb;clear hb)
  |(go_at_call 127;((with_reducible refine(iJ _ _).mono ?_));rintro e w' ⟨rfl,hb⟩;obtain⟨G2,rfl⟩:=aC hb;clear hb))
     refine bodyPost_ret (results_tmp2 rfl _ _ _) rfl ?_;exact⟨rfl,ux⟩
    ·have g6:¬yk=13:=fun e=>hg1.elim g5 (fun h=>h e)
     have g7:0≤va:=af;clear g1 g2 hg1;go_enter Tryz.func78,Tryz.ntmps78;go_wp2_with (first
  |(go_at_call 77;((with_reducible refine(Ha.out _ p6).mono ?_));rintro e w' ⟨rfl,hb⟩;obtain⟨G1,rfl⟩:=aC hb;clear hb)
  |(go_at_call 127;((with_reducible refine(iJ _ _).mono ?_));rintro e w' ⟨rfl,hb⟩;obtain⟨G2,rfl⟩:=aC hb;clear hb))
     refine bodyPost_ret (results_tmp2 rfl _ _ _) rfl ?_;exact⟨rfl,ux⟩
end Go.Proofs.YtjchnliaglecoaaGreatDoor

/- A part of the proof. Conditions: none. -/
set_option maxRecDepth 100000
set_option maxHeartbeats 8000000
namespace Go.Proofs.YtjchnliaglecoaaGreatDoor
open Go Go.RowKit Go.Nodes Go.Am
theorem Gj {W1:World} {k t:Nat} {a b x y:Value} (h:W1.heap[k]?=some (.cells #[x,y] t (0,0))) (G:gQ):
  (grow ((W1.setCell ⟨k,0,none⟩ a).setCell ⟨k,1,none⟩ b) G).cell? ⟨k,0,none⟩=some a∧(grow ((W1.setCell ⟨k,0,none⟩ a).setCell ⟨k,1,none⟩ b) G).cell? ⟨k,1,none⟩=some b:=by
 have h1:(W1.setCell ⟨k,0,none⟩ a).heap[k]?=some (.cells #[a,y] t (0,0)):=heap_setCell_same W1 k 0 #[x,y] t a h;have h2:((W1.setCell ⟨k,0,none⟩ a).setCell ⟨k,1,none⟩ b).heap[k]?=some (.cells #[a,b] t (0,0)):=heap_setCell_same _ k 1 #[a,y] t b h1;have h3:(grow ((W1.setCell ⟨k,0,none⟩ a).setCell ⟨k,1,none⟩ b) G).heap[k]?=some (.cells #[a,b] t (0,0)):=by
  rw [dK _ _ _ (Array.getElem?_eq_some_iff.1 h2).1];exact h2
 exact⟨by simp [World.cell?,h3],by simp [World.cell?,h3]⟩
def RS (ns:List Nd) (s:Fs) (a d:Nat) (W:World) (e:Ending) (w':World):Prop:=
 ∃(v k:Int) (is:Bool),e=.returned (.tuple #[.agg #[.int .i64 v,.int .i64 k],.bool is])∧Below W.heap.size W w'∧is=decide (0≤(dN ns s.vars s.uses a d).1)∧(is=true→v=(dN ns s.vars s.uses a d).1∧k=(dN ns s.vars s.uses a d).2)
theorem RT (W:World) (p:Option Addr) (c:Nat) (ns:List Nd) (hN:ay W p ns) (xo:Small ns) (ht:Tree ns) (v0 v1 v2 v3:Value) (s:Fs) (hs:nc W v0 v1 v2 v3 s) (hf:Fit ns s) (tb mb:Nat) (hT:jV W tb p ns.length c v0 v1 v2 v3 mb) (hM:fe W mb (AL 7)) (a d:Nat) (ha:a<ns.length) (hd:d<ns.length):
  Calls Tryz.prog 126 #[.pointer (some ⟨tb,0,none⟩),.int .i64 a,.int .i64 d] W (RS ns s a d W):=by
 have Hn:Hid (∀(n:Nat),n<ns.length→∀w1,Below W.heap.size W w1→Calls Tryz.prog 125 #[.pointer (some ⟨tb,0,none⟩),.int .i64 n] w1 fun e w'=>e=.returned (.int .i64 (fL ns s.vars s.uses n))∧Below w1.heap.size w1 w'):=hid fun n hn w1 hw=>FD w1 p c ns (aF hw hN) v0 v1 v2 v3 s (hs.later hw) hf tb mb (hT.later hw) n hn
 obtain⟨b,o,hp,bO,ct,aG,k0,k1,k2,k3⟩:=bh hN ha;obtain⟨b',o',hp',_,J4,ahG,l0,l1,l2,l3⟩:=bh hN hd;rw [hp] at hp';cases hp';have hka:=aL ct;have bW:=aL J4;have Xn:dS ns (a:Int)=(ns[a]).text.toList:=ri;have Zu:dS ns (d:Int)=(ns[d]).text.toList:=by unfold dS;rw [Int.toNat_natCast,J4]
 have bP:ax ns (a:Int)=(ns[a]).kids:=iA;obtain⟨R,hR⟩:∃R,R=dN ns s.vars s.uses a d:=⟨_,rfl⟩;have HE:=hid hR.symm;unfold dN n9 at hR;rw [hka,bW,Xn,Zu,bP] at hR;have Ha:=hid (Hn.out a ha);have Hz:Hid (ns[a].kind=21→ns[a].text.toList=oJ→∃(bk ok z:Nat),ns[a].kp=some ⟨bk,ok,none⟩∧bk<W.heap.size∧W.cell? ⟨bk,ok,none⟩=some (.int .i64 z)∧0<ns[a].kids.length∧ns[a].kids.getD 0 0=(z:Int)∧∀w1,Below W.heap.size W w1→Calls Tryz.prog 125 #[.pointer (some ⟨tb,0,none⟩),.int .i64 z] w1 fun e w'=>e=.returned (.int .i64 (fL ns s.vars s.uses z))∧Below w1.heap.size w1 w'):=hid (fun h1 h2=>by
  have h3:=Ce ht ha (by rw [hka];exact h1) (by rw [Xn];exact h2);rw [bP] at h3;obtain⟨bk,ok,eO,hb2,eA⟩:=bQ aG h3;have dA:=bH ht (n:=(a:Int)) af (ns[a].kids[0]) (by rw [bP];exact List.getElem_mem h3);obtain⟨z,hz⟩:∃z:Nat,ns[a].kids[0]=(z:Int):=⟨(ns[a].kids[0]).toNat,by omega⟩;have hg:ns[a].kids.getD 0 0=(z:Int):=by rw [aZ h3,hz]
  rw [hg,Nat.add_zero] at eA;exact⟨bk,ok,z,eO,hb2,eA,h3,hg,Hn.out z af⟩)
 obtain⟨⟨p0,c0,rfl,h0⟩,⟨p1,c1,rfl,h1⟩,⟨p2,c2,rfl,h2⟩,⟨p3,c3,rfl,h3⟩,_⟩:=hs;have x0:=hT.cell 0;have x5:=hT.cell 5;have htl:=hT.lt;simp only [List.getElem?_toArray,List.getElem?_cons_zero,List.getElem?_cons_succ] at x0 x5;subst hp;have a0:(0:Int)≤(a:Int):=af;have a1:(a:Int)<(ns.length:Int):=af;have d0:(0:Int)≤(d:Int):=af;have d1:(d:Int)<(ns.length:Int):=af;obtain⟨va,ZG⟩:∃va,va=fL ns s.vars s.uses a:=⟨_,rfl⟩;rw [←ZG] at hR Ha;have HM:=hid hM;have HR:=hid hR;have ZH:=hid (xo.2 ns[d] (List.getElem_mem hd)).2;clear h0 h1 h2 h3 hN ct J4 aG ahG hka bW Xn Zu bP ZG hR hT hM Hn hf ht;generalize ns[a]=x at*;generalize ns[d]=y at*;generalize ns.length=L at*;obtain⟨xk,xt,xp,xc,dx,eY⟩:=x;obtain⟨yk,yt,yp,yc,yks,ypl⟩:=y;simp only at HR Hz k0 k1 k2 k3 l0 l1 l2 l3 ZH;clear xo;go_enter Tryz.func126,Tryz.ntmps126;go_wp2;go_region
 ·by_cases Iq:yk=13
  ·exact adY
  have Gk:=HR.out;rw [if_neg (fun h=>Iq h.2)] at Gk;have amn:(yk==13)=false:=by simpa using Iq
  by_cases g2:(xk=21∧xt.toList=oJ)∧yk=16
  ·have S9:=trivial;exact adZ
  exact ad0
 ·by_cases Iq:yk=13
  ·exact adY
  have Gk:=HR.out;rw [if_neg (fun h=>Iq h.2)] at Gk;have amn:(yk==13)=false:=by simpa using Iq
  by_cases g2:(xk=21∧xt.toList=oJ)∧yk=16
  ·have Ta:=trivial;exact adZ
  exact ad0
end Go.Proofs.YtjchnliaglecoaaGreatDoor
