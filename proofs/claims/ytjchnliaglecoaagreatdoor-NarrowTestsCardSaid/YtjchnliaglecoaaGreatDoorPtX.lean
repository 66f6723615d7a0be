/- A part of the proof. Conditions: none. -/
import Derived.Test.YtjchnliaglecoaaGreatDoorZz
import Derived.Test.YtjchnliaglecoaaGreatDoorPsaX
import Derived.Test.YtjchnliaglecoaaGreatDoorPf
import Derived.Test.YtjchnliaglecoaaGreatDoorAmX
import Derived.Test.YtjchnliaglecoaaGreatDoorPaX
set_option linter.unusedVariables false
set_option linter.unusedSimpArgs false
set_option maxRecDepth 100000
set_option maxHeartbeats 8000000
namespace Go.Proofs.YtjchnliaglecoaaGreatDoor
open Go Go.RowKit Go.Nodes Go.Am Go.Shelf
attribute [local go_sem] Oper.semAt_some
def Mu (p:Option Addr) (L c:Nat) (v0 v1 v2 v3:Value) (B:Nat) (iv:Int) (yes:Bool):Nat→World→Value→Prop
 |0,w,v=>v=.slice p L c
 |1,w,v=>v=.agg #[v0,v1,v2,v3]
 |2,w,v=>∃mb,v=.map (some mb)∧B≤mb∧fe w mb (AL 7)
 |3,w,v=>∃mb,v=.agg #[.slice p L c,v0,v1,v2,v3,.map (some mb)]∧B≤mb∧fe w mb (AL 7)
 |4,w,v=>∃mb tb,v=.pointer (some ⟨tb,0,none⟩)∧B≤mb∧fe w mb (AL 7)∧jV w tb p L c v0 v1 v2 v3 mb
 |5,w,v=>v=.int .i64 iv
 |6,w,v=>v=.bool yes
 |_,w,v=>∃mb tb TB,v=.func (.func 123) #[] #[.pointer (some ⟨TB,0,none⟩),.pointer (some ⟨TB+1,0,none⟩),.pointer (some ⟨TB+2,0,none⟩)]∧B≤mb∧fe w mb (AL 7)∧jV w tb p L c v0 v1 v2 v3 mb∧Boxed w TB 118 (.pointer (some ⟨tb,0,none⟩))∧Boxed w (TB+1) 3 (.int .i64 iv)∧Boxed w (TB+2) 4 (.bool yes)
theorem GK {p:Option Addr} {L c:Nat} {v0 v1 v2 v3:Value} {B:Nat} {iv:Int} {yes:Bool}:∀(k:Nat) (w w':World) (v:Value),Below w.heap.size w w'→Mu p L c v0 v1 v2 v3 B iv yes k w v→Mu p L c v0 v1 v2 v3 B iv yes k w' v:=by
 intro k w w' v hb h;unfold Mu at*;split at h
 ·exact h
 ·exact h
 ·obtain⟨mb,h1,h2,h3⟩:=h;exact⟨mb,h1,h2,h3.kept (bK hb) ak⟩
 ·obtain⟨mb,h1,h2,h3⟩:=h;exact⟨mb,h1,h2,h3.kept (bK hb) ak⟩
 ·obtain⟨mb,tb,h1,h2,h3,h4⟩:=h;exact⟨mb,tb,h1,h2,h3.kept (bK hb) ak,h4.later hb⟩
 ·exact h
 ·exact h
 ·obtain⟨mb,tb,TB,h1,h2,h3,h4,h5,h6,h7⟩:=h;exact⟨mb,tb,TB,h1,h2,h3.kept (bK hb) ak,h4.later hb,h5.kept (bK hb) ak,h6.kept (bK hb) ak,h7.kept (bK hb) ak⟩
theorem cell_two_new (w:World) (a b:Value) (j:Nat) (u:Value) (h:([a,b]:List Value)[j]?=some u):(w.alloc (.cells #[a,b] 58)).cell? ((⟨w.heap.size,0,none⟩:Addr).add j)=some u:=by
 have e:(⟨w.heap.size,0,none⟩:Addr).add j=⟨w.heap.size,j,none⟩:=by simp [Addr.add];omega
 rw [e,Lib.cell_of_heap (heap_alloc_new w (.cells #[a,b] 58)) j];simpa using h
theorem abZ {w w':World} {tb:Nat} {i:Int} {yes:Bool} (h:w'=((w.alloc (.cells #[.pointer (some ⟨tb,0,none⟩)] 118)).alloc (.cells #[.int .i64 i] 3)).alloc (.cells #[.bool yes] 4)):
  Below w.heap.size w w'∧Boxed w' w.heap.size 118 (.pointer (some ⟨tb,0,none⟩))∧Boxed w' (w.heap.size+1) 3 (.int .i64 i)∧Boxed w' (w.heap.size+2) 4 (.bool yes):=by
 subst h;refine⟨by repeat (first|exact Below.refl _ _|refine bA ?_ _),((Boxed.new w _ _).alloc _).alloc _, ?_, ?_⟩
 ·have h1:=Boxed.new (w.alloc (.cells #[.pointer (some ⟨tb,0,none⟩)] 118)) 3 (.int .i64 i);have h2:(w.alloc (.cells #[.pointer (some ⟨tb,0,none⟩)] 118)).heap.size=w.heap.size+1:=ak;rw [h2] at h1;exact h1.alloc _
 ·have h1:=Boxed.new ((w.alloc (.cells #[.pointer (some ⟨tb,0,none⟩)] 118)).alloc (.cells #[.int .i64 i] 3)) 4 (.bool yes);have h2:((w.alloc (.cells #[.pointer (some ⟨tb,0,none⟩)] 118)).alloc (.cells #[.int .i64 i] 3)).heap.size=w.heap.size+2:=ak;rw [h2] at h1;exact h1
theorem aaH (W:World) (p:Option Addr) (c:Nat) (ns:List Nd) (hS:Small ns) (ht:Tree ns) (hwt:∀m,m<ns.length→wt ns m≤ns.length) (ha:ay W p ns) (v0 v1 v2 v3:Value) (s:Fs) (hs:nc W v0 v1 v2 v3 s) (hf:Fit ns s) (i:Nat) (hi:i<ns.length) (yes:Bool):
  Calls Tryz.prog 31 #[.slice p ns.length c,.agg #[v0,v1,v2,v3],.int .i64 i,.bool yes] W (fM W (aW ns s.vars s.uses ns.length i yes)):=by
 have hdd:∀k:Nat,(Fence.wide.depth.isSome=true→1≤k):=fun k h=>by cases h
 obtain⟨W1,hW1⟩:∃W1,W1=W.alloc (.cells #[v0,v1,v2,v3] 28):=⟨_,rfl⟩;obtain⟨W2,hW2⟩:∃W2,W2=W1.alloc (.cells #[.slice none 0 0] 32):=⟨_,rfl⟩;have hS1:W1.heap.size=W.heap.size+1:=r6;have JQ:W2.heap.size=W.heap.size+2:=by rw [hW2];simp [hS1]
 have anB:Below W.heap.size W W1:=by rw [hW1];exact au _ _
 have anC:Below W1.heap.size W1 W2:=BW;have hO:Boxed W2 (W.heap.size+1) 32 (.slice none 0 0):=by rw [hW2,←hS1];exact Boxed.new _ _ _
 obtain⟨R,hR⟩:∃R,R=aW ns s.vars s.uses ns.length i yes:=⟨_,rfl⟩;rw [←hR];have SK:Hid (R.length≤5000):=hid (by rw [hR];exact Nat.le_trans (fH ht _ _ _ _ _ hi) (Nat.le_trans (hwt i hi) hS.1));have anD:Hid (∀(w5:World) (tb mb TB:Nat),Below W.heap.size W w5→W.heap.size+2≤mb→jV w5 tb p ns.length c v0 v1 v2 v3 mb→fe w5 mb (AL 7)→Boxed w5 TB 118 (.pointer (some ⟨tb,0,none⟩))→Boxed w5 (TB+1) 3 (.int .i64 i)→Boxed w5 (TB+2) 4 (.bool yes)→
   SeqStopsK Fence.wide (3 - 1) Tryz.prog 123 #[.pointer (some ⟨TB,0,none⟩),.pointer (some ⟨TB+1,0,none⟩),.pointer (some ⟨TB+2,0,none⟩)] qT (Kt W.heap.size w5.heap.size (W.heap.size+1)) (fun ys=>ys=R) (fun _=>True) R.length w5):=hid fun w5 tb mb TB h1 h2 h3 h4 h5 h6 h7=>by
  have h:=Ee (3 - 1) W w5 (W.heap.size+1) p c ns ha hS ht v0 v1 v2 v3 s hs hf tb mb TB (TB+1) (TB+2) i yes hi h1 af h3 h4 h5 h6 h7;rw [←hR] at h;exact h
 have Ll:=hid hW1;have V6:=hid anC;have ab0:=hid anB;have HO:=hid hO;obtain⟨⟨q0,d0,rfl,k0⟩,⟨q1,d1,rfl,k1⟩,⟨q2,d2,rfl,k2⟩,⟨q3,d3,rfl,k3⟩,_⟩:=hs;clear k0 k1 k2 k3 hR hf ht hwt ha hS hO anB anC;generalize s.vars.length=n0 at*;generalize s.uses.length=n1 at*;generalize s.funcs.length=n2 at*;generalize s.cF.length=n3 at*;generalize ns.length=L at*;refine(callsIn_wide (n:=3)).1 ?_;refine callsIn_of_wp_marks Tryz.func31 rfl trivial ?_ rfl;simp only [Tryz.ntmps31,List.size_toArray,List.length_cons,List.length_nil,Nat.reduceAdd,Nat.reduceSub,Array.replicate_succ,Array.replicate_zero,List.push_toArray,List.append_toArray,List.nil_append,List.cons_append];gi_wp2;rw [←hW1];rw [←hS1];rw [←hW2];clear hW1 hW2;rename_i K2_ tV;refine Am.xB ai ?_;refine Am.bM (Φ:=Mu p L c (.slice q0 n0 d0) (.slice q1 n1 d1) (.slice q2 n2 d2) (.slice q3 n3 d3) W2.heap.size (i:Int) yes) (w0:=W2) ai ai GK ?_ ?_ _ ((Below.refl _ _).drew)
 ·intro kq o ca w1 ho hb ah K hK;have hfn:∀f,ca.eval (.func f)=.func (.func f) #[] #[]:=fun _=>rfl
  have hcs:∀v,ca.eval (.const v)=v:=fun _=>rfl
  rcases kq with _|_|_|_|_|_|_|_|kq
  ·exact oy
  ·cases ho;have aQ:=Am.lo 5 ah rfl;obtain⟨R0,R1,R2,R3⟩:=q8 Ll.out (V6.out.trans (hb.mono V6.out.size));exact TY
  ·cases ho;refine Am.aD rfl rfl (Am.dG (w':=w1) (f:=74) (args:=#[]) ?_ ((X3 w1).mono ?_))
   ·exact zi
   ·rintro e w' ⟨rfl,hb',Zn⟩;exact⟨_,rfl,hK _ _ hb' ⟨_,rfl,hb.size,Zn⟩⟩
  ·cases ho;have aQ:=Am.lk 11 0 ah fun _=>rfl
   have nV:=Am.lk 12 1 ah fun _=>rfl
   obtain⟨mb,Iq,j8,tF⟩:∃mb,ca.tmps.getD 13 undef=.map (some mb)∧W2.heap.size≤mb∧fe w1 mb (AL 7):=Am.aV (j:=2) ah ai rfl rfl;replace Iq:=Am.aS Iq;refine Am.aD rfl rfl (Am.aU (v:=.agg #[.slice p L c,.slice q0 n0 d0,.slice q1 n1 d1,.slice q2 n2 d2,.slice q3 n3 d3,.map (some mb)]) ?_ (hK _ _ (Below.refl _ _) ⟨mb,rfl,j8,tF⟩));generalize ca.eval=ev at*;simp [go_sem,execOp,hfn,hcs,aQ,nV,Iq]
  ·cases ho;obtain⟨mb,h14,j8,tF⟩:∃mb,ca.tmps.getD 14 undef=.agg #[.slice p L c,.slice q0 n0 d0,.slice q1 n1 d1,.slice q2 n2 d2,.slice q3 n3 d3,.map (some mb)]∧W2.heap.size≤mb∧fe w1 mb (AL 7):=Am.aV (j:=3) ah ai rfl rfl;replace h14:=Am.aS h14;refine Am.aD rfl rfl (Am.aU (v:=.pointer (some ⟨w1.heap.size,0,none⟩)) (w':=w1.alloc (.cells #[.slice p L c,.slice q0 n0 d0,.slice q1 n1 d1,.slice q2 n2 d2,.slice q3 n3 d3,.map (some mb)] 122)) ?_ (hK _ _ ((Below.refl _ _).alloc (Nat.le_refl _) _) ⟨mb,w1.heap.size,rfl,j8,tF.kept (World.grownBy_alloc w1 _ none) ak,⟨heap_alloc_new _ _⟩⟩));generalize ca.eval=ev at*;simp [go_sem,execOp,hfn,hcs,h14]
  ·exact r9
  ·exact sV
  ·cases ho;have aQ:=Am.lk 16 5 ah fun _=>rfl
   have nV:=Am.lk 17 6 ah fun _=>rfl
   obtain⟨mb,tb,EH,j8,tF,Yf⟩:∃mb tb,ca.tmps.getD 15 undef=.pointer (some ⟨tb,0,none⟩)∧W2.heap.size≤mb∧fe w1 mb (AL 7)∧jV w1 tb p L c (.slice q0 n0 d0) (.slice q1 n1 d1) (.slice q2 n2 d2) (.slice q3 n3 d3) mb:=Am.aV (j:=4) ah ai rfl rfl;replace EH:=Am.aS EH;refine Am.aD rfl rfl (Am.dG (w':=w1) (f:=75) (args:=#[.pointer (some ⟨tb,0,none⟩),.int .i64 (i:Int),.bool yes]) ?_ ((ab1 w1 tb i yes).mono ?_))
   ·generalize ca.eval=ev at*;simp [go_sem,execOp,hfn,hcs,EH,aQ,nV]
   ·rintro e w' ⟨rfl,hw'⟩;obtain⟨hb',t1,t2,t3⟩:=abZ hw';exact⟨_,rfl,hK _ _ hb' ⟨mb,tb,w1.heap.size,rfl,j8,tF.kept (bK hb') ak,Yf.later hb',t1,t2,t3⟩⟩
  ·simp at ho
 ·intro ca w1 hb hd hs aT bp;obtain⟨mb,tb,TB,h18,j8,tF,Yf,t1,t2,t3⟩:∃mb tb TB,ca.tmps.getD 18 undef=.func (.func 123) #[] #[.pointer (some ⟨TB,0,none⟩),.pointer (some ⟨TB+1,0,none⟩),.pointer (some ⟨TB+2,0,none⟩)]∧W2.heap.size≤mb∧fe w1 mb (AL 7)∧jV w1 tb p L c (.slice q0 n0 d0) (.slice q1 n1 d1) (.slice q2 n2 d2) (.slice q3 n3 d3) mb∧Boxed w1 TB 118 (.pointer (some ⟨tb,0,none⟩))∧Boxed w1 (TB+1) 3 (.int .i64 (i:Int))∧Boxed w1 (TB+2) 4 (.bool yes):=aT 7 _ 18 rfl rfl;have bf:=Am.bC hd hs bp;simp only [List.foldl_cons,List.foldl_nil,h18] at bf;generalize ca.tmps.getD 11 undef=NQ at bf;generalize ca.tmps.getD 12 undef=y12 at bf;generalize ca.tmps.getD 13 undef=y13 at bf;generalize ca.tmps.getD 14 undef=y14 at bf;generalize ca.tmps.getD 15 undef=y15 at bf;generalize ca.tmps.getD 16 undef=y16 at bf;generalize ca.tmps.getD 17 undef=y17 at bf;subst bf;simp only [List.setIfInBounds_toArray,List.set_cons_succ,List.set_cons_zero];have aX:Below W.heap.size W w1:=(ab0.out.trans (V6.out.mono ab0.out.size)).trans (hb.mono (Nat.le_trans ab0.out.size V6.out.size));have hO1:Boxed w1 (W.heap.size+1) 32 (.slice none 0 0):=HO.out.kept (bK hb) ak;have hsq:=anD.out w1 tb mb TB aX af Yf tF t1 t2 t3;have uKq:W.heap.size+2≤w1.heap.size:=by have:=hb.size;omega
  rw [hS1];clear hb hd hs aT bp h18 j8 tF Yf t1 t2 t3 anD HO Ll ab0 V6 hS1 JQ;refine tV _ _ ?_;clear tV;gi_wp2;rename_i K hK;obtain⟨iT,hiT,zT0,zT1,zT2⟩:=info_parts Tryz.Tz;refine wpIn_rangeFunc_ownH (n:=3) rfl af (gf:=123) (lb:=#[.pointer (some ⟨TB,0,none⟩),.pointer (some ⟨TB+1,0,none⟩),.pointer (some ⟨TB+2,0,none⟩)]) rfl trivial (enters_of Tryz.func123 ai rfl)
   hsq Kt.trans (arj aX.size (Nat.le_refl _)) (Below.refl _ _) (fun _=>rfl)
   (fun pre W6=>(Below W.heap.size W W6∧w1.heap.size≤W6.heap.size)∧∃v,Boxed W6 (W.heap.size+1) 32 v∧W6.ownsRow w1.heap.size 58 2 v pre.length (eH pre)∧(pre=[]→v=.slice none 0 0))
   (fun cc pre W6=>False)
   (OwnFrom.and (OwnFrom.and (ownFrom_below (Nat.le_refl _) aX.size) (fun s X Y row h hg hr=>Nat.le_trans h hg.size)) (Own.from (holdsRow_own w1.heap.size (W.heap.size+1) 32 58 2 (fun l=>l.length) eH (fun l v=>l=[]→v=.slice none 0 0)) _)) (fun cc=>ownFrom_pure _ _)
   ⟨⟨aX,Nat.le_refl _⟩,_,hO1,⟨rfl,.inl ⟨rfl,rfl⟩⟩,fun _=>rfl⟩
   (fun x a' W6=>∃xb,a'={tmps:=List.toArray (.slice p L c::.agg #[.slice q0 n0 d0,.slice q1 n1 d1,.slice q2 n2 d2,.slice q3 n3 d3]::.int .i64 (i:Int)::.bool yes::undef::.pointer (some ⟨W.heap.size,0,none⟩)::undef::undef::.slice none 0 0::.pointer (some ⟨W.heap.size+1,0,none⟩)::.pointer (some ⟨xb,0,none⟩)::NQ::y12::y13::y14::y15::y16::y17::.func (.func 123) #[] #[.pointer (some ⟨TB,0,none⟩),.pointer (some ⟨TB+1,0,none⟩),.pointer (some ⟨TB+2,0,none⟩)]::.agg #[.int .i64 x.1,.int .i64 x.2]::undef::undef::undef::undef::undef::[]),defers:=[]}∧w1.heap.size≤xb∧W6.heap[xb]?=some (.cells #[.int .i64 x.1,.int .i64 x.2] 58 (0,0)))
   (fun x a' s X Y row ⟨xb,h1,h2,h3⟩ hg hr=>⟨xb,h1,h2,(hg.block xb (Array.getElem?_eq_some_iff.1 h3).1 (fun e=>by obtain⟨_,o,ho,hc⟩:=hr xb e.symm;rw [h3] at ho;cases ho;cases hc)).trans h3⟩)
   ?ab2 ?anE ?anF ?anG
  case ab2=>
   rintro l pre x W6 K6 ⟨⟨Xs,KB⟩,v,hv,hr,hnil⟩ hK6;have asN:=hK6 _ (W6.alloc (.cells #[.int .i64 x.1,.int .i64 x.2] 58)) ((KeepsOthers.alloc W6 _).from _) (Kt.jU (au _ _) Xs.size KB)
    ⟨⟨Xs.trans ((au _ _).mono Xs.size),Nat.le_trans KB (au W6 _).size⟩,v,hv.alloc _,bR hr (au _ _),hnil⟩ ⟨W6.heap.size,rfl,KB,heap_alloc_new _ _⟩
   clear hK6 Xs KB hv hr hnil;dsimp only [qT];gi_wp2;simpa [qT] using asN
  case anG=>
   intro D cc pre W6 _ _ h;exact h.elim
  case anE=>
   rintro l pre x a' W6 _ _ ⟨⟨Xs,KB⟩,v,hv,hr,hnil⟩ ⟨xb,rfl,hxb,hxc⟩ hlen;have EB:pre.length+1≤5000:=by have:=SK.out;omega
   have c20:=hv.cell;have x0:W6.cell? ⟨xb,0,none⟩=some (.int .i64 x.1):=by simp [World.cell?,hxc]
   have x1:W6.cell? ⟨xb,1,none⟩=some (.int .i64 x.2):=by simp [World.cell?,hxc]
   have IC:=hid Xs;have Hs6:=hid KB;have Hv:=hid hv;have Hr:=hid hr;clear Xs KB hv hr hnil hxc hlen hsq;gi_wp2_with (gi_at_builtin;refine wpListIn_append_own _ rfl _ _ 32 rfl w1.heap.size 58 iT (.agg #[.int .i64 0,.int .i64 0]) 2 16 Tryz.underlying32 hiT zT0 zT1 zT2 rfl aj _ _ _ rfl (bR Hr.out (au _ _)) ⟨W6.heap.size,0,none⟩ 1 1 [.int .i64 x.1,.int .i64 x.2] rfl rfl (cell_two_new _ _ _) Fx ?c3 ?c4 ?c5 ?_)
   case c3=>unfold maxLen;omega
   case c4=>omega
   case c5=>have:=Hs6.out;simp;omega
   intro v' w2 hown hgrow _;obtain⟨k1,k2,k3,k4,k5⟩:=KC (B:=W.heap.size) Hv.out Hr.out Hs6.out af af hown hgrow;obtain⟨g,cap,rfl⟩:=ownsRow_succ hown;have c9:=k1.cell;have f9:=k1.frozen;obtain⟨W3,hW3⟩:∃W3,W3=w2.setCell ⟨W.heap.size+1,0,none⟩ (.slice (some ⟨g,0,none⟩) (pre.length+1) cap):=⟨_,rfl⟩;rw [←hW3] at k2 k3 k4 k5;have Ay:=hid (show KeepsFrom w1.heap.size W6 W3∧Kt W.heap.size w1.heap.size (W.heap.size+1) W6 W3∧(Below W.heap.size W W3∧w1.heap.size≤W3.heap.size)∧∃v,Boxed W3 (W.heap.size+1) 32 v∧W3.ownsRow w1.heap.size 58 2 v (pre++[x]).length (eH (pre++[x]))∧(pre++[x]=[]→v=.slice none 0 0) from
    ⟨k4,k5,⟨IC.out.trans k5.below,Nat.le_trans Hs6.out k5.size⟩,_,k2,by rw [List.length_append,Ch];exact k3,fun h=>by simp at h⟩)
   have HW3:=hid hW3;clear hW3 k1 k2 k3 k4 k5 hown hgrow IC Hs6 Hv Hr c20 x0 x1;gi_wp2;rw [←HW3.out];exact Ay.out
  case anF=>
   rintro D ys W6 hD rfl ⟨⟨Xs,KB⟩,v,hv,hr,hnil⟩ hdf;refine hK _ _ ?_;have c6:=hv.cell;have Ay:=hid (show Below W.heap.size W (W6.putObj D (.deferred none))∧fT W.heap.size (W6.putObj D (.deferred none)) v ys from
    ⟨Xs.trans (belowK_b (w:=W) (Nat.le_refl _) _ D _ _ af hdf rfl rfl),nK (ownsRow_putObj hr _ hdf rfl) af,hnil⟩)
   clear Xs KB hv hr hnil hsq;gi_wp2;refine⟨by simp,.inl ⟨_,_,rfl,run_takeDeferred hdf, ?_⟩⟩;refine⟨v, ?_,v,rfl,Ay.out.1,Ay.out.2⟩;simp [results,Tryz.f31,go_sem]
end Go.Proofs.YtjchnliaglecoaaGreatDoor

/- A part of the proof. Conditions: none. -/
set_option maxRecDepth 100000
set_option maxHeartbeats 8000000
namespace Go.Proofs.YtjchnliaglecoaaGreatDoor
open Go Go.RowKit Go.Nodes Go.Am
theorem Qh {α:Type} (x y:α):jr x y=jr y x:=by
 by_cases h:x=y
 ·subst h;rfl
 ·rw [cj h,cj (fun e=>h e.symm)]
theorem XW (W1 w9:World) {q0 q1 q2 q3 p0 p1 p2 p3:Option Addr} {n0 n1 n2 n3 m0 m1 m2 m3 d0 d1 d2 d3 c0 c1 c2 c3:Nat} {s os:Fs} {b0 b1 b2 b3:Bool}
  (hs:nc W1 (.slice q0 n0 d0) (.slice q1 n1 d1) (.slice q2 n2 d2) (.slice q3 n3 d3) s) (ho:nc w9 (.slice p0 m0 c0) (.slice p1 m1 c1) (.slice p2 m2 c2) (.slice p3 m3 c3) os) (hb:Below W1.heap.size W1 w9)
  (h0:jr os.vars s.vars=b0) (h1:jr os.uses s.uses=b1) (h2:jr os.funcs s.funcs=b2) (h3:jr os.cF s.cF=b3):
  (∀w,Below w9.heap.size w9 w→Calls Tryz.prog 72 #[.slice p0 m0 c0,.slice q0 n0 d0] w fun e w'=>e=.returned (.bool b0)∧Below w.heap.size w w')∧
  (∀w,Below w9.heap.size w9 w→Calls Tryz.prog 73 #[.slice p1 m1 c1,.slice q1 n1 d1] w fun e w'=>e=.returned (.bool b1)∧Below w.heap.size w w')∧
  (∀w,Below w9.heap.size w9 w→Calls Tryz.prog 73 #[.slice p2 m2 c2,.slice q2 n2 d2] w fun e w'=>e=.returned (.bool b2)∧Below w.heap.size w w')∧
  (∀w,Below w9.heap.size w9 w→Calls Tryz.prog 73 #[.slice p3 m3 c3,.slice q3 n3 d3] w fun e w'=>e=.returned (.bool b3)∧Below w.heap.size w w'):=by
 subst h0 h1 h2 h3;have hs9:=hs.later hb;refine⟨fun w hw=>?_,fun w hw=>?_,fun w hw=>?_,fun w hw=>?_⟩
 all_goals
  obtain⟨⟨_,_,e0,r0⟩,⟨_,_,e1,r1⟩,⟨_,_,e2,r2⟩,⟨_,_,e3,r3⟩,l0,l1,l2,l3⟩:=hs9.later hw;obtain⟨⟨_,_,f0,t0⟩,⟨_,_,f1,t1⟩,⟨_,_,f2,t2⟩,⟨_,_,f3,t3⟩,k0,k1,k2,k3⟩:=ho.later hw;cases e0;cases e1;cases e2;cases e3;cases f0;cases f1;cases f2;cases f3
 ·exact(XS w _ _ _ _ _ _ t0 r0 k0 l0).mono fun e w' ⟨h,r,hr⟩=>⟨h,by rw [hr];exact below_drewN _ _⟩
 ·exact(CZ w _ _ _ _ _ _ t1 r1 k1 l1).mono fun e w' ⟨h,r,hr⟩=>⟨h,by rw [hr];exact below_drewN _ _⟩
 ·exact(CZ w _ _ _ _ _ _ t2 r2 k2 l2).mono fun e w' ⟨h,r,hr⟩=>⟨h,by rw [hr];exact below_drewN _ _⟩
 ·exact(CZ w _ _ _ _ _ _ t3 r3 k3 l3).mono fun e w' ⟨h,r,hr⟩=>⟨h,by rw [hr];exact below_drewN _ _⟩
theorem alc (W:World) (p:Option Addr) (c:Nat) (ns:List Nd) (hS:Small ns) (hc:gS ns) (ha:ay W p ns) (hl0:bZ W) (v0 v1 v2 v3:Value) (s:Fs) (hs:nc W v0 v1 v2 v3 s):
  Calls Tryz.prog 29 #[.slice p ns.length c,.agg #[v0,v1,v2,v3]] W fun e w'=>e=.returned (.bool (tL ns s))∧Below W.heap.size W w':=by
 obtain⟨W1,hW1⟩:∃W1,W1=W.alloc (.cells #[v0,v1,v2,v3] 28):=⟨_,rfl⟩;have hb1:Below W.heap.size W W1:=by rw [hW1];exact au _ _
 have HS:=hid hS;have Hs:=hid (hs.later hb1);have pn:=hid hb1;have Hp:=hid (M9 W1 p c ns hS hc (aF hb1 ha) (hl0.later hb1));have Na:Hid (W1.heap.size=W.heap.size+1):=hid r6;have Ll:=hid hW1;obtain⟨⟨q0,d0,rfl,k0⟩,⟨q1,d1,rfl,k1⟩,⟨q2,d2,rfl,k2⟩,⟨q3,d3,rfl,k3⟩,_⟩:=hs;clear k0 k1 k2 k3 hS hc ha hl0 hb1;unfold tL;generalize hz:cy ns=out at*;obtain⟨os,oa,oe⟩:=out;have Hz:=hid hz;clear hz;generalize s.vars.length=n0 at*;generalize s.uses.length=n1 at*;generalize s.funcs.length=n2 at*;generalize s.cF.length=n3 at*;simp only;obtain⟨b0,hb0⟩:∃b,jr s.vars os.vars=b:=⟨_,rfl⟩;obtain⟨b1,hb1⟩:∃b,jr s.uses os.uses=b:=⟨_,rfl⟩;obtain⟨b2,hb2⟩:∃b,jr s.funcs os.funcs=b:=⟨_,rfl⟩;obtain⟨b3,hb3⟩:∃b,jr s.cF os.cF=b:=⟨_,rfl⟩;unfold Fc;rw [hb0,hb1,hb2,hb3];rw [Qh] at hb0 hb1 hb2 hb3;have mD:=hid hb0;have aqb:=hid hb1;have pV:=hid hb2;have Hb3:=hid hb3;clear hb0 hb1 hb2 hb3;go_enter Tryz.func29,Tryz.ntmps29;go_wp2_with (first
   |(go_at_call 71;rw [←hW1];refine Hp.out.mono ?_;intro e w9 hE;obtain⟨u0,u1,u2,u3,rfl,gA,hsc⟩:=hE;rw [Hz.out] at hsc ⊢;have Nb:=hid (Jl HS.out (by rw [Hz.out];exact hsc));rw [Hz.out] at Nb;obtain⟨⟨p0,c0,rfl,h0⟩,⟨p1,c1,rfl,h1⟩,⟨p2,c2,rfl,h2⟩,⟨p3,c3,rfl,h3⟩,_⟩:=Nb.out;have Hq:=hid (XW W1 _ Hs.out Nb.out gA mD.out aqb.out pV.out Hb3.out);clear h0 h1 h2 h3 hsc hW1;simp only;obtain⟨R0,R1,R2,R3⟩:=q8 Ll.out gA;have hlt:W.heap.size<w9.heap.size:=by(have:=gA.size;have:=Na.out;omega))
   |(go_at_call 72;with_reducible refine(Hq.out.1 _ tM).mono ?_;rintro e w' ⟨rfl,hb⟩;obtain⟨g0,rfl⟩:=aC hb;clear hb)
   |(go_at_call 73;with_reducible refine(Hq.out.2.1 _ tM).mono ?_;rintro e w' ⟨rfl,hb⟩;obtain⟨g1,rfl⟩:=aC hb;clear hb)
   |(go_at_call 73;with_reducible refine(Hq.out.2.2.1 _ tM).mono ?_;rintro e w' ⟨rfl,hb⟩;obtain⟨g2,rfl⟩:=aC hb;clear hb)
   |(go_at_call 73;with_reducible refine(Hq.out.2.2.2 _ tM).mono ?_;rintro e w' ⟨rfl,hb⟩;obtain⟨g3,rfl⟩:=aC hb;clear hb))
 all_goals
  have Xh:=pn.out.trans (gA.mono pn.out.size);go_ret;refine⟨by simp_all, ?_⟩
  repeat (first|exact Xh|refine bG ?_ _|refine bA ?_ _)
end Go.Proofs.YtjchnliaglecoaaGreatDoor

/- A part of the proof. Conditions: none. -/
set_option maxRecDepth 100000
set_option maxHeartbeats 8000000
namespace Go.Proofs.YtjchnliaglecoaaGreatDoor
open Go Go.RowKit Go.Nodes Go.Am
theorem LP (W:World) (p:Option Addr) (c:Nat) (ns:List Nd) (hS:Small ns) (hc:gS ns) (ha:ay W p ns) (hl0:bZ W) (v0 v1 v2 v3:Value) (s:Fs) (hs:nc W v0 v1 v2 v3 s) (n:Int) (yes:Bool):
  Calls Tryz.prog 12 #[.slice p ns.length c,.agg #[v0,v1,v2,v3],.int .i64 n,.bool yes] W (fM W (mH ns s n yes)):=by
 have abS:=trivial;exact agD
end Go.Proofs.YtjchnliaglecoaaGreatDoor
