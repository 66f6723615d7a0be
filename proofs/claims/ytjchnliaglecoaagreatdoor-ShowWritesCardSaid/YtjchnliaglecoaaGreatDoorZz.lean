/- A part of the proof. Conditions: none. -/
import Derived.Tactics2
import Derived.Test.YtjchnliaglecoaaGreatDoorZzA
import Derived.TacticsIn
import Derived.OwnWalkIn
import Derived.KernelRfl
import Derived.IntWalk
import Derived.BigQuiet
import Derived.LoopTactic
import Derived.RegionTactic
import Derived.Deep.QuietTactic
import Derived.Maps.OwnSet
import Derived.StillTailTactics
import Derived.Deep.RegionHeld3
set_option linter.unusedVariables false
set_option linter.unusedSimpArgs false
set_option maxRecDepth 100000
set_option maxHeartbeats 8000000
namespace Go
variable {p:Prop}
theorem adj (h:p:=by
 have hX:R=K (ns[m].kids.getD 0 0)++(⟨#[32,64,32]⟩:ByteArray)++gF ns[m].text:=ya;have aj:=hsz;rw [hX] at aj
 try simp only [ByteArray.size_append] at aj
 have bu:0<ns[m].kids.length:=Nat.lt_of_lt_of_le ai bK;obtain⟨bk,ok,fO,fu,uD⟩:=jC 0 bu;have FV:=hq 0 bu;have dY:(0:Int)<(ns[m].kids.length:Int):=aa;have QT:=hid (fun(u:ByteArray) (w:World) (hw:Wr W0 B (.slice p ns.length c) u z w) (hs:u.size+(K (ns[m].kids.getD 0 0)).size≤1000000000)=>hK (ns[m].kids.getD 0 0) z u w hw FV.1 aa hs);have hCm:=hid (fun w=>PB ns[m].text w);rw [Nat.add_zero] at uD;have LK:=hid (And.intro fu uD);clear FV fu uD;generalize ns[m].kids.getD 0 0=ka at*;generalize K ka=ta at*;generalize gF ns[m].text=tm at*;have gy:=hid hX;have cw:=h.cell0;have lw:=h.size;have H:=hid h;clear hK hR hX hN ht hv aT aJ hsz bK aX hf hq jC hIn h;generalize ns[m]=x at*;obtain⟨xk,xt,xp,xc,aK,aP⟩:=x;simp only at c0 c1 c2 c3 hk gy QS bu fO dY hCm ⊢;subst hk hp;clear hm;generalize ns.length=L at*;subst fO;generalize aK.length=xl at*;have bQ:Below w.heap.size w ((w.alloc (.cells #[.pointer (some ⟨B,0,none⟩)] 73)).alloc (.cells #[.int .i64 36,.string xt,.slice (some ⟨bk,ok,none⟩) xl xc,.int .i64 aP] 56)):=bA (bA (Below.refl _ _) _) _;have h0:=H.out.later bQ;have cI:=hid (aC (B:=B) bQ);have jV:=hid (show((w.alloc (.cells #[.pointer (some ⟨B,0,none⟩)] 73)).alloc (.cells #[.int .i64 36,.string xt,.slice (some ⟨bk,ok,none⟩) xl xc,.int .i64 aP] 56)).heap[w.heap.size]?=some (.cells #[.pointer (some ⟨B,0,none⟩)] 73 (0,0)) from dO (heap_alloc_new _ _));have dW:=hid (show((w.alloc (.cells #[.pointer (some ⟨B,0,none⟩)] 73)).alloc (.cells #[.int .i64 36,.string xt,.slice (some ⟨bk,ok,none⟩) xl xc,.int .i64 aP] 56)).heap[w.heap.size+1]?=some (.cells #[.int .i64 36,.string xt,.slice (some ⟨bk,ok,none⟩) xl xc,.int .i64 aP] 56 (0,0)) by
  have:=heap_alloc_new (w.alloc (.cells #[.pointer (some ⟨B,0,none⟩)] 73)) (.cells #[.int .i64 36,.string xt,.slice (some ⟨bk,ok,none⟩) xl xc,.int .i64 aP] 56);simpa using this)
 have rq:w.heap.size≠B:=aa;have dH:w.heap.size+1≠B:=aa;obtain⟨w0,hw0⟩:∃w0,w0=((w.alloc (.cells #[.pointer (some ⟨B,0,none⟩)] 73)).alloc (.cells #[.int .i64 36,.string xt,.slice (some ⟨bk,ok,none⟩) xl xc,.int .i64 aP] 56)):=⟨_,rfl⟩;have HW0:=hid hw0;rw [←hw0] at h0 bQ cI jV dW;clear hw0;have cX0:w0.cell? ⟨w.heap.size,0,none⟩=some (.pointer (some ⟨B,0,none⟩)):=by simp [World.cell?,jV.out]
 have lX0:w.heap.size<w0.heap.size:=(Array.getElem?_eq_some_iff.1 jV.out).1;have cY0:w0.cell? ⟨w.heap.size+1,1,none⟩=some (.string xt):=by simp [World.cell?,dW.out]
 have cZ0:w0.cell? ⟨w.heap.size+1,2,none⟩=some (.slice (some ⟨bk,ok,none⟩) xl xc):=by simp [World.cell?,dW.out]
 have lY0:w.heap.size+1<w0.heap.size:=(Array.getElem?_eq_some_iff.1 dW.out).1;have cA0:=(h0.below.cell (p:=⟨bk,_,none⟩) LK.out.1).trans LK.out.2;have lK0:bk<w0.heap.size:=Nat.lt_of_lt_of_le LK.out.1 h0.below.size;have cR:=hid (QT.out _ _ (h0.later (Below.refl _ _).drew) bg);replace cI:=hid (cI.out.trans (aC (B:=B) (Below.refl w0.heap.size w0).drew));have B3:=hid (show(w0.drew).heap[w.heap.size]?=_ from jV.out);have FT:=hid (show(w0.drew).heap[w.heap.size+1]?=_ from dW.out);clear jV dW bQ h0 H;have jV:=B3;have dW:=FT;clear B3 FT;go_enter Tryz.func195,Tryz.ntmps195;go_wp2;rw [←HW0.out];clear HW0;go_still_tail 5,ah;go_wp2_with (go_at_call 195;with_reducible refine(cR.out).mono ?_);rintro e w1 ⟨rfl,h1,aR⟩;have cm:=hid (cI.out.trans aR);have fT:=hid (aR.2 _ _ _ jV.out ai rq);have dJ:=hid (aR.2 _ _ _ dW.out ai dH);have H1:=hid h1;clear h1 aR cR cI jV dW cX0 lX0 cY0 cZ0 lY0 cA0 lK0;go_wp2;obtain⟨wy,rfl⟩:∃wy,wy=w1:=⟨_,rfl⟩;refine wp_region_any ah ?_;refine Am.eJ _ 5 rfl ah ?_;simp only [List.take_succ_cons,List.take_zero];refine Am.cq (Φ:=Am.Hg [.pointer (some ⟨B,0,none⟩),.pointer (some ⟨w.heap.size+1,1,none⟩),.string xt,.string tm,undef] 4 #[.string ⟨#[32,64,32]⟩,.string tm] wy.heap.size) (w0:=wy) ah ah Am.oO ?_ ?_ _ ((Below.refl _ _).drew)
 ·intro kq o ca w1 ho hb ag K hK;have hXw:=(hb.block _ (Array.getElem?_eq_some_iff.1 fT.out).1).trans fT.out;have hYw:=(hb.block _ (Array.getElem?_eq_some_iff.1 dJ.out).1).trans dJ.out;have cXw:w1.cell? ⟨w.heap.size,0,none⟩=some (.pointer (some ⟨B,0,none⟩)):=by simp [World.cell?,hXw]
  have cYw:w1.cell? ⟨w.heap.size+1,1,none⟩=some (.string xt):=by simp [World.cell?,hYw]
  have QM:=hb.size;have hfn:∀f,ca.eval (.func f)=.func (.func f) #[] #[]:=fun _=>rfl
  have hcs:∀v,ca.eval (.const v)=v:=fun _=>rfl
  rcases kq with _|_|_|_|_|kq
  ·cases ho;have aW:=Am.lo 2 ag rfl;exact ZE
  ·cases ho;have aW:=Am.lo 4 ag rfl;exact dF
  ·cases ho;have aW:=Am.lk 90 1 ag fun _=>rfl
   refine Am.rv rfl rfl (hK _ _ (Below.refl _ _) rfl) ?_;generalize ca.eval=ev at*;simp [go_sem,execOp,hfn,hcs,aW,cYw]<;>first|omega|(intro hz;omega)
  ·cases ho;have aW:=Am.lk 91 2 ag fun _=>rfl
   refine Am.bh rfl rfl (Am.cH (w':=w1) (f:=45) (args:=#[.string xt]) ?_ ((hCm.out w1).mono ?_))
   ·exact vC
   ·exact NT
  ·cases ho;have aW:=Am.lk 92 3 ag fun _=>rfl
   refine Am.bh rfl rfl (Am.ic (v:=.slice (some ⟨w1.heap.size,0,none⟩) 2 2) (w':=w1.alloc (.cells #[.string ⟨#[32,64,32]⟩,.string tm] 9)) ?_ (hK _ _ ((Below.refl _ _).alloc (Nat.le_refl _) _) ⟨w1.heap.size,rfl,heap_alloc_new _ _,QM⟩));exact vC
  ·simp at ho
 ·intro ca w1 hb hd hs bV cQ;have h89:ca.tmps.getD 89 undef=.pointer (some ⟨B,0,none⟩):=bV 0 _ 89 rfl rfl;obtain⟨U,h93,hU,hUW⟩:∃U:Nat,ca.tmps.getD 93 undef=.slice (some ⟨U,0,none⟩) 2 2∧w1.heap[U]?=some (.cells #[.string ⟨#[32,64,32]⟩,.string tm] 9 (0,0))∧wy.heap.size≤U:=bV 4 _ 93 rfl rfl;have dV:=Am.dy hd hs cQ;simp only [List.foldl_cons,List.foldl_nil,h89,h93] at dV;obtain⟨yf,pW⟩:∃y:Nat→Value,∀t,ca.tmps.getD t undef=y t:=⟨_,fun _=>rfl⟩;simp only [pW] at dV;clear pW;subst dV;simp only [List.setIfInBounds_toArray,List.set_cons_succ,List.set_cons_zero];simp only [Am.jJ];clear hd hs bV cQ h89 h93;have S3:U≠B:=by have:=H1.out.size;omega
  have Yi:=H1.out.later hb;have HPr:=hid (Bv Yi ⟨#[32,64,32]⟩ tm U hU S3 bg);have HKr:=hid (cm.out.trans (aC (B:=B) hb));clear Yi hb hU hUW H1 fT dJ;go_wp2_with (go_at_call 44;with_reducible refine(HPr.out).mono ?_);rintro e w3 ⟨rfl,h3,hk3⟩;have HF:=hid (And.intro h3 (HKr.out.trans hk3));clear h3 hk3 HPr HKr cm;exact zS
 ):p:=h
theorem adk (h:p:=by
 have hX:R=jt ⟨#[32,124,32]⟩ (fun i=>K (ns[m].kids.getD i 0)) ns[m].kids.length:=ya;have aj:=hsz;rw [hX] at aj
 try simp only [ByteArray.size_append] at aj
 have bu:0<ns[m].kids.length:=Nat.lt_of_lt_of_le ai bK;have iC:∀i,i≤ns[m].kids.length→u.size+(jt ⟨#[32,124,32]⟩ (fun i=>K (ns[m].kids.getD i 0)) i).size≤1000000000:=fun i hi=>Nat.le_trans (Nat.add_le_add_left (jo _ _ i _ hi) _) aj
 have hC:∀i,i<ns[m].kids.length→∀(u:ByteArray) (w:World),Wr W0 B (.slice p ns.length c) u z w→u.size+(K (ns[m].kids.getD i 0)).size≤1000000000→Calls Tryz.prog 195 #[.pointer (some ⟨B,0,none⟩),.int .i64 (ns[m].kids.getD i 0)] w (aI W0 B (.slice p ns.length c) (u++K (ns[m].kids.getD i 0)) z w):=fun i hi u w hw hs=>
  hK _ z u w hw (hq i hi).1 uF hs
 obtain⟨bk,ok,fO,fu,_⟩:=jC 0 bu;have iz:∀i,i<ns[m].kids.length→W0.cell? ⟨bk,ok+i,none⟩=some (.int .i64 (ns[m].kids.getD i 0)):=fun i hi=>by
  obtain⟨b2,o2,h1,_,h3⟩:=jC i hi;rw [fO] at h1;cases h1;exact h3
 have HC:=hid hC;have HZ:=hid iC;have mh:=hid (And.intro fu iz);clear hC iC iz aj bu fu;have gy:=hid hX;have cw:=h.cell0;have lw:=h.size;have H:=hid h;clear hK hR hX hN ht hv aT aJ hsz bK aX hf hq jC hIn h;generalize ns[m]=x at*;obtain⟨xk,xt,xp,xc,aK,aP⟩:=x;simp only at c0 c1 c2 c3 hk gy QS fO HC HZ mh ⊢;subst hk hp;clear hm;generalize ns.length=L at*;subst fO;have bQ:Below w.heap.size w ((w.alloc (.cells #[.pointer (some ⟨B,0,none⟩)] 73)).alloc (.cells #[.int .i64 35,.string xt,.slice (some ⟨bk,ok,none⟩) aK.length xc,.int .i64 aP] 56)):=bA (bA (Below.refl _ _) _) _;have h0:=H.out.later bQ;have cI:=hid (aC (B:=B) bQ);have jV:=hid (show((w.alloc (.cells #[.pointer (some ⟨B,0,none⟩)] 73)).alloc (.cells #[.int .i64 35,.string xt,.slice (some ⟨bk,ok,none⟩) aK.length xc,.int .i64 aP] 56)).heap[w.heap.size]?=some (.cells #[.pointer (some ⟨B,0,none⟩)] 73 (0,0)) from dO (heap_alloc_new _ _));have dW:=hid (show((w.alloc (.cells #[.pointer (some ⟨B,0,none⟩)] 73)).alloc (.cells #[.int .i64 35,.string xt,.slice (some ⟨bk,ok,none⟩) aK.length xc,.int .i64 aP] 56)).heap[w.heap.size+1]?=some (.cells #[.int .i64 35,.string xt,.slice (some ⟨bk,ok,none⟩) aK.length xc,.int .i64 aP] 56 (0,0)) by
  have:=heap_alloc_new (w.alloc (.cells #[.pointer (some ⟨B,0,none⟩)] 73)) (.cells #[.int .i64 35,.string xt,.slice (some ⟨bk,ok,none⟩) aK.length xc,.int .i64 aP] 56);simpa using this)
 have rq:w.heap.size≠B:=aa;have dH:w.heap.size+1≠B:=aa;obtain⟨w0,hw0⟩:∃w0,w0=((w.alloc (.cells #[.pointer (some ⟨B,0,none⟩)] 73)).alloc (.cells #[.int .i64 35,.string xt,.slice (some ⟨bk,ok,none⟩) aK.length xc,.int .i64 aP] 56)):=⟨_,rfl⟩;have HW0:=hid hw0;rw [←hw0] at h0 bQ cI jV dW;clear hw0;have HS:=hid h0;clear h0 bQ H;go_enter Tryz.func195,Tryz.ntmps195;go_wp2;rw [←HW0.out];clear HW0;go_loopw [67] (fun iv wr=>∃i:Nat,i≤aK.length∧iv=.int .i64 (i:Int)∧Hid (Wr W0 B (.slice (some ⟨b,o,none⟩) L c) (u++jt ⟨#[32,124,32]⟩ (fun i=>K (aK.getD i 0)) i) z wr∧Kp B w0 wr)) (fun iv _=>aK.length - (intOf iv).toNat)
 case atStart=>exact⟨0,Nat.zero_le _,rfl,hid ⟨by rw [show jt ⟨#[32,124,32]⟩ (fun i=>K (aK.getD i 0)) 0=(⟨#[]⟩:ByteArray) from rfl,fJ];exact HS.out,Kp.refl _ _⟩⟩
 case round=>
  obtain⟨i,hi,rfl,hst⟩:=hrel;by_cases di:i<aK.length
  ·obtain⟨h1,aR⟩:=hst.out;have lK:=Nat.lt_of_lt_of_le mh.out.1 h1.below.size;have hcell:=(h1.below.cell (p:=⟨bk,_,none⟩) mh.out.1).trans (mh.out.2 i di);have fT:=hid (aR.2 _ _ _ jV.out ai rq);have cX:wr.cell? ⟨w.heap.size,0,none⟩=some (.pointer (some ⟨B,0,none⟩)):=kT;have lX:w.heap.size<wr.heap.size:=(Array.getElem?_eq_some_iff.1 fT.out).1;have E8:(i:Int)<(aK.length:Int):=aa;have hz0:=HZ.out i hi;have hz1:=HZ.out (i+1) di;have hstep:jt ⟨#[32,124,32]⟩ (fun i=>K (aK.getD i 0)) (i+1)=(if 0<i then jt ⟨#[32,124,32]⟩ (fun i=>K (aK.getD i 0)) i++⟨#[32,124,32]⟩ else jt ⟨#[32,124,32]⟩ (fun i=>K (aK.getD i 0)) i)++K (aK.getD i 0):=rfl;rw [hstep] at hz1;have sR:=hid hstep;have wm:=hid (HC.out i di);have H1:=hid h1;have cm:=hid (cI.out.trans aR);have HKw:=hid aR;clear hstep HC HZ mh h1 aR hst HS jV dW cI;generalize jt ⟨#[32,124,32]⟩ (fun i=>K (aK.getD i 0)) i=T at*;generalize aK.getD i 0=q at*;generalize K q=gi at*;have hz2:(⟨#[32,124,32]⟩:ByteArray).size=3:=rfl;by_cases nR:0<i
   ·have Jc:(0:Int)<(i:Int):=by omega
    rw [if_pos nR] at hz1;simp only [ByteArray.size_append,hz2] at hz1;have HP:=hid (cW H1.out ⟨#[32,124,32]⟩ (by rw [ByteArray.size_append,hz2];omega));clear H1;go_wp2_with (go_at_call 44;with_reducible refine(HP.out).mono ?_);rintro e w2 ⟨rfl,h2,hk2⟩;have eI:=hid (wm.out _ w2 h2 B4);have eD:=hid (HKw.out.trans hk2);have kK:=hid (hk2.2 _ _ _ fT.out ai rq);have wk:w2.cell? ⟨w.heap.size,0,none⟩=some (.pointer (some ⟨B,0,none⟩)):=sD;have lX2:w.heap.size<w2.heap.size:=(Array.getElem?_eq_some_iff.1 kK.out).1;clear h2 hk2 HP cm wm hcell fT cX lX lK;go_wp2_with (go_at_call 195;with_reducible refine(eI.out).mono ?_);exact BQ
   ·have V6:=trivial;exact acI
  ·obtain rfl:i=aK.length:=by omega
   obtain⟨h1,aR⟩:=hst.out;have HF:=hid (And.intro h1 (cI.out.trans aR));clear h1 aR hst HC HZ mh HS jV dW cI;go_wp2;go_end0;exact⟨rfl,by rw [gy.out];exact HF.out.1,HF.out.2⟩
 ):p:=h
theorem Ui (h:p:=by
 have hq:∀i,i<ns[m].kids.length→0≤ns[m].kids.getD i 0∧ns[m].kids.getD i 0<m:=fun i hi=>cE ht (List.getElem?_eq_getElem hm) hi
 have jC:∀i (hi:i<ns[m].kids.length),∃b o,ns[m].kp=some ⟨b,o,none⟩∧b<W0.heap.size∧W0.cell? ⟨b,o+i,none⟩=some (.int .i64 (ns[m].kids.getD i 0)):=fun i hi=>cC hN (Below.refl _ _) hm hi
 have hIn:bC W0 ns[m].kp ns[m].kids:=(hN.2.1 _ (List.getElem_mem hm)).2.2.2.2.2;have QS:(ns[m].kids.length:Int)≤10000:=aa;obtain⟨R,hR⟩:∃R,R=bW ns K ns[m]:=⟨_,rfl⟩;rw [←hR] at hsz ⊢
 first
 |(have:=Uh;exact adh)
 |(have:=Uj;exact adi)
 |(have:=Uk;exact adj)
 |(have:=Ul;exact adk)
 ):p:=h
theorem adl (h:p:=by
 obtain⟨R,hR⟩:∃R,R=aQ ns E K S ns[m] d:=⟨_,rfl⟩;rw [←hR] at hsz ⊢;have hX:R=E (ns[m].kids.getD 0 0) d++(⟨#[32,61,32]⟩:ByteArray)++E (ns[m].kids.getD 1 0) d:=nW;have iY:ns[m].text.size≤4000:=aT.2;have aj:=hsz;rw [hX] at aj;simp only [ByteArray.size_append] at aj;have dm:=hid (fun w hb2=>hE (ns[m].kids.getD 0 0) d w hb2 eA.1 aa aa aa);have kj:=hid (fun w hb2=>hE (ns[m].kids.getD 1 0) d w hb2 iq.1 aa aa aa);generalize E (ns[m].kids.getD 0 0) d=s0 at*;generalize E (ns[m].kids.getD 1 0) d=s1 at*;generalize ns[m].kids.getD 0 0=k0 at*;generalize ns[m].kids.getD 1 0=k1 at*;have HX:=hid hX;have HB:=hid hb;clear hE hK hS hR hX hN ht hv aT aJ hsz bK hb hf eA iq;generalize ns[m]=x at*;obtain⟨xk,xt,xp,xc,aK,aP⟩:=x;simp only at c0 c1 c2 c3 hk iY HX bu bf dY gC fA mA;subst hk hp;subst bf;cases fA;rw [Nat.add_zero] at dQ;generalize ns.length=L at*;generalize aK.length=xl at*;obtain⟨wz,cV⟩:∃wz,wz=W'.alloc (.cells #[.int .i64 6,.string xt,.slice (some ⟨aq,aU,none⟩) xl xc,.int .i64 aP] 56):=⟨_,rfl⟩;have ji:=hid (show Below W.heap.size W wz by rw [cV];exact bA HB.out _);have dh:=hid (show Below W'.heap.size W' wz by rw [cV];exact bA (Below.refl _ _) _);have iE:=(show wz.heap[W'.heap.size]?=some (.cells #[.int .i64 6,.string xt,.slice (some ⟨aq,aU,none⟩) xl xc,.int .i64 aP] 56 (0,0)) by rw [cV];exact heap_alloc_new _ _);have F1:=hid (show wz.cell? ⟨W'.heap.size,1,none⟩=some (.string xt) by simp [World.cell?,iE]);have F2:=hid (show wz.cell? ⟨W'.heap.size,2,none⟩=some (.slice (some ⟨aq,aU,none⟩) xl xc) by simp [World.cell?,iE]);have LX:=hid (Array.getElem?_eq_some_iff.1 iE).1;have G0:=hid ((dh.out.cell (p:=⟨aq,_,none⟩) aS).trans dQ);have G1:=hid ((dh.out.cell (p:=⟨aq,_,none⟩) aS).trans oM);have LK:=hid (Nat.lt_of_lt_of_le aS dh.out.size);have jb:=hid cV;clear cV iE;go_enter Tryz.func97,Tryz.ntmps97;go_wp2;rw [←jb.out];clear jb;refine Am.eV (Φ:=Am.pJ [.slice (some ⟨b,o,none⟩) L c,.pointer (some ⟨W'.heap.size,2,none⟩),.slice (some ⟨aq,aU,none⟩) xl xc,.pointer (some ⟨aq,aU,none⟩),.int .i64 k0,.int .i64 ((d:Int)),.string s0,.string (s0++(⟨#[32,61,32]⟩:ByteArray)),.slice (some ⟨b,o,none⟩) L c,.pointer (some ⟨W'.heap.size,2,none⟩),.slice (some ⟨aq,aU,none⟩) xl xc,.pointer (some ⟨aq,aU+1,none⟩),.int .i64 k1,.int .i64 ((d:Int)),.string s1,.string (s0++(⟨#[32,61,32]⟩:ByteArray)++s1),.string (s0++(⟨#[32,61,32]⟩:ByteArray)++s1)]) ah ah ah Am.cS ?_ ?_
 ·have V7:=trivial;exact V8
 ·intro ca w1 hb hd hs bV cQ;have h6:ca.tmps.getD 6 undef=.string (s0++(⟨#[32,61,32]⟩:ByteArray)++s1):=bV 16 _ 6 rfl rfl;exact xQ
 ):p:=h
theorem adm (h:p:=by
 obtain⟨R,hR⟩:∃R,R=aQ ns E K S ns[m] d:=⟨_,rfl⟩;rw [←hR] at hsz ⊢;have hX:R=(⟨#[119,104,105,108,101,32]⟩:ByteArray)++E (ns[m].kids.getD 0 0) d++(⟨#[32,100,111,10]⟩:ByteArray)++aL ns S (ns[m].kids.getD 1 0) (d+1)++bP d++(⟨#[101,110,100]⟩:ByteArray):=nW;have iY:ns[m].text.size≤4000:=aT.2;have aj:=hsz;rw [hX] at aj;simp only [ByteArray.size_append] at aj;have dm:=hid (fun w hb2=>hE (ns[m].kids.getD 0 0) d w hb2 eA.1 aa aa aa);have kj:=hid (fun w hb2=>mg ht hN aJ hS (ns[m].kids.getD 1 0) (d+1) w hb2 iq.1 aa aa aa aa);rw [show((d+1:Nat):Int)=(d:Int)+1 by omega] at kj;have hP:=hid (fun w=>FW d aa w);have hpz:=gM d;generalize E (ns[m].kids.getD 0 0) d=s0 at*;generalize aL ns S (ns[m].kids.getD 1 0) (d+1)=s1 at*;generalize bP d=pd at*;generalize ns[m].kids.getD 0 0=k0 at*;generalize ns[m].kids.getD 1 0=k1 at*;have HX:=hid hX;have HB:=hid hb;clear hE hK hS hR hX hN ht hv aT aJ hsz bK hb hf eA iq;generalize ns[m]=x at*;obtain⟨xk,xt,xp,xc,aK,aP⟩:=x;simp only at c0 c1 c2 c3 hk iY HX bu bf dY gC fA mA;subst hk hp;subst bf;cases fA;rw [Nat.add_zero] at dQ;generalize ns.length=L at*;generalize aK.length=xl at*;obtain⟨wz,cV⟩:∃wz,wz=W'.alloc (.cells #[.int .i64 9,.string xt,.slice (some ⟨aq,aU,none⟩) xl xc,.int .i64 aP] 56):=⟨_,rfl⟩;have ji:=hid (show Below W.heap.size W wz by rw [cV];exact bA HB.out _);have dh:=hid (show Below W'.heap.size W' wz by rw [cV];exact bA (Below.refl _ _) _);have iE:=(show wz.heap[W'.heap.size]?=some (.cells #[.int .i64 9,.string xt,.slice (some ⟨aq,aU,none⟩) xl xc,.int .i64 aP] 56 (0,0)) by rw [cV];exact heap_alloc_new _ _);have F1:=hid (show wz.cell? ⟨W'.heap.size,1,none⟩=some (.string xt) by simp [World.cell?,iE]);have F2:=hid (show wz.cell? ⟨W'.heap.size,2,none⟩=some (.slice (some ⟨aq,aU,none⟩) xl xc) by simp [World.cell?,iE]);have LX:=hid (Array.getElem?_eq_some_iff.1 iE).1;have G0:=hid ((dh.out.cell (p:=⟨aq,_,none⟩) aS).trans dQ);have G1:=hid ((dh.out.cell (p:=⟨aq,_,none⟩) aS).trans oM);have LK:=hid (Nat.lt_of_lt_of_le aS dh.out.size);have jb:=hid cV;clear cV iE;go_enter Tryz.func97,Tryz.ntmps97;go_wp2;rw [←jb.out];clear jb;refine Am.eV (Φ:=Am.pJ [.slice (some ⟨b,o,none⟩) L c,.pointer (some ⟨W'.heap.size,2,none⟩),.slice (some ⟨aq,aU,none⟩) xl xc,.pointer (some ⟨aq,aU,none⟩),.int .i64 k0,.int .i64 ((d:Int)),.string s0,.string ((⟨#[119,104,105,108,101,32]⟩:ByteArray)++s0),.string ((⟨#[119,104,105,108,101,32]⟩:ByteArray)++s0++(⟨#[32,100,111,10]⟩:ByteArray)),.slice (some ⟨b,o,none⟩) L c,.pointer (some ⟨W'.heap.size,2,none⟩),.slice (some ⟨aq,aU,none⟩) xl xc,.pointer (some ⟨aq,aU+1,none⟩),.int .i64 k1,.int .i64 ((d:Int)),.int .i64 ((d:Int)+1),.string s1,.string ((⟨#[119,104,105,108,101,32]⟩:ByteArray)++s0++(⟨#[32,100,111,10]⟩:ByteArray)++s1),.int .i64 ((d:Int)),.string pd,.string ((⟨#[119,104,105,108,101,32]⟩:ByteArray)++s0++(⟨#[32,100,111,10]⟩:ByteArray)++s1++pd),.string ((⟨#[119,104,105,108,101,32]⟩:ByteArray)++s0++(⟨#[32,100,111,10]⟩:ByteArray)++s1++pd++(⟨#[101,110,100]⟩:ByteArray)),.string ((⟨#[119,104,105,108,101,32]⟩:ByteArray)++s0++(⟨#[32,100,111,10]⟩:ByteArray)++s1++pd++(⟨#[101,110,100]⟩:ByteArray))]) ah ah ah Am.cS ?_ ?_
 ·have V9:=trivial;exact V8
 ·intro ca w1 hb hd hs bV cQ;have h6:ca.tmps.getD 6 undef=.string ((⟨#[119,104,105,108,101,32]⟩:ByteArray)++s0++(⟨#[32,100,111,10]⟩:ByteArray)++s1++pd++(⟨#[101,110,100]⟩:ByteArray)):=bV 22 _ 6 rfl rfl;exact xQ
 ):p:=h
theorem adn (h:p:=by
 obtain⟨R,hR⟩:∃R,R=aQ ns E K S ns[m] d:=⟨_,rfl⟩;rw [←hR] at hsz ⊢;have hX:R=(if aB ns (ns[m].kids.getD 1 0)=12 then(⟨#[108,111,99,97,108,32]⟩:ByteArray)++ns[m].text++bO ns K (ns[m].kids.getD 0 0) else(⟨#[108,111,99,97,108,32]⟩:ByteArray)++ns[m].text++bO ns K (ns[m].kids.getD 0 0)++((⟨#[32,61,32]⟩:ByteArray)++E (ns[m].kids.getD 1 0) d)):=nW;have iY:ns[m].text.size≤4000:=aT.2;obtain⟨z,hz⟩:∃z:Nat,ns[m].kids.getD 1 0=z:=⟨(ns[m].kids.getD 1 0).toNat,by omega⟩;have hzl:z<ns.length:=aa;have ZU:(z:Int)<(ns.length:Int):=aa;obtain⟨b',o',xX,EG,dz0,dz1,dz2,dz3⟩:=bL hN hb hzl;rw [hp] at xX;cases xX;have Ay:aB ns (ns[m].kids.getD 1 0)=ns[z].kind:=OP;rw [Ay] at hX;have hs1:(bO ns K (ns[m].kids.getD 0 0)).size+4006≤1000004006:=by
  rw [hX] at hsz;split at hsz<;>simp only [ByteArray.size_append] at hsz<;>omega
 have hs0:ns[z].kind≠12→ns[m].text.size+(bO ns K (ns[m].kids.getD 0 0)).size+(E (ns[m].kids.getD 1 0) d).size≤1000000000:=fun h=>by
  rw [hX,if_neg h] at hsz;simp only [ByteArray.size_append] at hsz;omega
 have dm:=hid (fun w hb2=>rD ht hN aJ hK (ns[m].kids.getD 0 0) w hb2 eA.1 aa aa);have kj:=hid (fun(h:ns[z].kind≠12) w hb2=>hE (ns[m].kids.getD 1 0) d w hb2 iq.1 aa aa (by have:=hs0 h;omega));have CF:=hid hs0;rw [hz] at kj CF hX iq;clear hs0;generalize E (z:Int) d=s1 at*;generalize bO ns K (ns[m].kids.getD 0 0)=s0 at*;generalize ns[m].kids.getD 0 0=k0 at*;have HX:=hid hX;have HB:=hid hb;rw [hz] at oM;generalize ns[z].kind=zk at*;clear Ay dz1 dz2 dz3 EG hz hzl;clear hE hK hS hR hX hN ht hv aT aJ hsz bK hb hf eA iq;generalize ns[m]=x at*;obtain⟨xk,xt,xp,xc,aK,aP⟩:=x;simp only at c0 c1 c2 c3 hk iY HX bu bf dY gC fA mA CF;subst hk hp;subst bf;cases fA;rw [Nat.add_zero] at dQ;generalize ns.length=L at*;generalize aK.length=xl at*;by_cases fV:zk=12
 ·subst fV;have kK:=hid (show R=_ from HX.out.trans (if_pos rfl));clear HX kj CF;obtain⟨wz,cV⟩:∃wz,wz=W'.alloc (.cells #[.int .i64 4,.string xt,.slice (some ⟨aq,aU,none⟩) xl xc,.int .i64 aP] 56):=⟨_,rfl⟩;have ji:=hid (show Below W.heap.size W wz by rw [cV];exact bA HB.out _);have dh:=hid (show Below W'.heap.size W' wz by rw [cV];exact bA (Below.refl _ _) _);have iE:=(show wz.heap[W'.heap.size]?=some (.cells #[.int .i64 4,.string xt,.slice (some ⟨aq,aU,none⟩) xl xc,.int .i64 aP] 56 (0,0)) by rw [cV];exact heap_alloc_new _ _);have F1:=hid (show wz.cell? ⟨W'.heap.size,1,none⟩=some (.string xt) by simp [World.cell?,iE]);have F2:=hid (show wz.cell? ⟨W'.heap.size,2,none⟩=some (.slice (some ⟨aq,aU,none⟩) xl xc) by simp [World.cell?,iE]);have LX:=hid (Array.getElem?_eq_some_iff.1 iE).1;have G0:=hid ((dh.out.cell (p:=⟨aq,_,none⟩) aS).trans dQ);have G1:=hid ((dh.out.cell (p:=⟨aq,_,none⟩) aS).trans oM);have LK:=hid (Nat.lt_of_lt_of_le aS dh.out.size);have GZ:=hid ((dh.out.cell (p:=⟨b,_,none⟩) hlt).trans dz0);have LB:=hid (Nat.lt_of_lt_of_le hlt dh.out.size);have jb:=hid cV;clear cV iE;go_enter Tryz.func97,Tryz.ntmps97;go_wp2;rw [←jb.out];clear jb;refine Am.eV (Φ:=Am.pJ [.pointer (some ⟨W'.heap.size,1,none⟩),.string xt,.string ((⟨#[108,111,99,97,108,32]⟩:ByteArray)++xt),.slice (some ⟨b,o,none⟩) L c,.pointer (some ⟨W'.heap.size,2,none⟩),.slice (some ⟨aq,aU,none⟩) xl xc,.pointer (some ⟨aq,aU,none⟩),.int .i64 k0,.string s0,.string ((⟨#[108,111,99,97,108,32]⟩:ByteArray)++xt++s0),.string ((⟨#[108,111,99,97,108,32]⟩:ByteArray)++xt++s0)]) ah ah ah Am.cS ?_ ?_
  ·exact agW
  ·intro ca w1 hb hd hs bV cQ;have h8:ca.tmps.getD 8 undef=.string ((⟨#[108,111,99,97,108,32]⟩:ByteArray)++xt++s0):=bV 10 _ 8 rfl rfl;have dV:=Am.dy hd hs cQ;simp only [List.foldl_cons,List.foldl_nil,h8] at dV;generalize ca.tmps.getD 18 undef=y18 at dV;generalize ca.tmps.getD 19 undef=y19 at dV;generalize ca.tmps.getD 20 undef=y20 at dV;generalize ca.tmps.getD 21 undef=y21 at dV;generalize ca.tmps.getD 22 undef=y22 at dV;generalize ca.tmps.getD 23 undef=y23 at dV;generalize ca.tmps.getD 24 undef=y24 at dV;generalize ca.tmps.getD 25 undef=y25 at dV;generalize ca.tmps.getD 26 undef=y26 at dV;generalize ca.tmps.getD 27 undef=y27 at dV;subst dV;simp only [List.setIfInBounds_toArray,List.set_cons_succ,List.set_cons_zero];clear hd hs bV cQ h8;have qm:=hid (ji.out.trans (hb.mono ji.out.size));have qo:=hid (dh.out.trans (hb.mono dh.out.size));have FX:=hid ((hb.cell (p:=⟨W'.heap.size,_,none⟩) LX.out).trans F1.out);have FY:=hid ((hb.cell (p:=⟨W'.heap.size,_,none⟩) LX.out).trans F2.out);have FZ:=hid (Nat.lt_of_lt_of_le LX.out hb.size);have F0:=hid ((hb.cell (p:=⟨aq,_,none⟩) LK.out).trans G0.out);have F3:=hid ((hb.cell (p:=⟨aq,_,none⟩) LK.out).trans G1.out);have F4:=hid (Nat.lt_of_lt_of_le LK.out hb.size);have F5:=hid ((hb.cell (p:=⟨b,_,none⟩) LB.out).trans GZ.out);have F6:=hid (Nat.lt_of_lt_of_le LB.out hb.size);clear hb ji dh F1 F2 LX G0 G1 LK GZ LB;have ji:=qm;have dh:=qo;clear qm qo;have F1:=FX;clear FX;have F2:=FY;clear FY;have LX:=FZ;clear FZ;have G0:=F0;clear F0;have G1:=F3;clear F3;have LK:=F4;clear F4;have GZ:=F5;clear F5;have LB:=F6;clear F6;have vp:=F1.out;have wk:=F2.out;have lX:=LX.out;have zW:=G0.out;have sX:=G1.out;have lK:=LK.out;have Wa:=GZ.out;have lB:=LB.out;go_wp2;go_ret;exact⟨by rw [kK.out];rfl,dh.out⟩
 ·have Ut:(zk==12)=false:=by simp [fV]
  have QB:(zk !=12)=true:=by simp [fV]
  have kK:=hid (show R=_ from HX.out.trans (if_neg fV));have HCZ:=hid (kj.out fV);have Uu:=CF.out fV;clear HX kj CF;obtain⟨wz,cV⟩:∃wz,wz=W'.alloc (.cells #[.int .i64 4,.string xt,.slice (some ⟨aq,aU,none⟩) xl xc,.int .i64 aP] 56):=⟨_,rfl⟩;have ji:=hid (show Below W.heap.size W wz by rw [cV];exact bA HB.out _);have dh:=hid (show Below W'.heap.size W' wz by rw [cV];exact bA (Below.refl _ _) _);have iE:=(show wz.heap[W'.heap.size]?=some (.cells #[.int .i64 4,.string xt,.slice (some ⟨aq,aU,none⟩) xl xc,.int .i64 aP] 56 (0,0)) by rw [cV];exact heap_alloc_new _ _);have F1:=hid (show wz.cell? ⟨W'.heap.size,1,none⟩=some (.string xt) by simp [World.cell?,iE]);have F2:=hid (show wz.cell? ⟨W'.heap.size,2,none⟩=some (.slice (some ⟨aq,aU,none⟩) xl xc) by simp [World.cell?,iE]);have LX:=hid (Array.getElem?_eq_some_iff.1 iE).1;have G0:=hid ((dh.out.cell (p:=⟨aq,_,none⟩) aS).trans dQ);have G1:=hid ((dh.out.cell (p:=⟨aq,_,none⟩) aS).trans oM);have LK:=hid (Nat.lt_of_lt_of_le aS dh.out.size);have GZ:=hid ((dh.out.cell (p:=⟨b,_,none⟩) hlt).trans dz0);have LB:=hid (Nat.lt_of_lt_of_le hlt dh.out.size);have jb:=hid cV;clear cV iE;go_enter Tryz.func97,Tryz.ntmps97;go_wp2;rw [←jb.out];clear jb;refine Am.eV (Φ:=Am.pJ [.pointer (some ⟨W'.heap.size,1,none⟩),.string xt,.string ((⟨#[108,111,99,97,108,32]⟩:ByteArray)++xt),.slice (some ⟨b,o,none⟩) L c,.pointer (some ⟨W'.heap.size,2,none⟩),.slice (some ⟨aq,aU,none⟩) xl xc,.pointer (some ⟨aq,aU,none⟩),.int .i64 k0,.string s0,.string ((⟨#[108,111,99,97,108,32]⟩:ByteArray)++xt++s0),.string ((⟨#[108,111,99,97,108,32]⟩:ByteArray)++xt++s0)]) ah ah ah Am.cS ?_ ?_
  ·exact agW
  ·intro ca w1 hb hd hs bV cQ;have h8:ca.tmps.getD 8 undef=.string ((⟨#[108,111,99,97,108,32]⟩:ByteArray)++xt++s0):=bV 10 _ 8 rfl rfl;have dV:=Am.dy hd hs cQ;simp only [List.foldl_cons,List.foldl_nil,h8] at dV;obtain⟨yf,pW⟩:∃y:Nat→Value,∀t,ca.tmps.getD t undef=y t:=⟨_,fun _=>rfl⟩;simp only [pW] at dV;clear pW;subst dV;simp only [List.setIfInBounds_toArray,List.set_cons_succ,List.set_cons_zero];clear hd hs bV cQ h8;have qm:=hid (ji.out.trans (hb.mono ji.out.size));have qo:=hid (dh.out.trans (hb.mono dh.out.size));have FX:=hid ((hb.cell (p:=⟨W'.heap.size,_,none⟩) LX.out).trans F1.out);have FY:=hid ((hb.cell (p:=⟨W'.heap.size,_,none⟩) LX.out).trans F2.out);have FZ:=hid (Nat.lt_of_lt_of_le LX.out hb.size);have F0:=hid ((hb.cell (p:=⟨aq,_,none⟩) LK.out).trans G0.out);have F3:=hid ((hb.cell (p:=⟨aq,_,none⟩) LK.out).trans G1.out);have F4:=hid (Nat.lt_of_lt_of_le LK.out hb.size);have F5:=hid ((hb.cell (p:=⟨b,_,none⟩) LB.out).trans GZ.out);have F6:=hid (Nat.lt_of_lt_of_le LB.out hb.size);clear hb ji dh F1 F2 LX G0 G1 LK GZ LB;have ji:=qm;have dh:=qo;clear qm qo;have F1:=FX;clear FX;have F2:=FY;clear FY;have LX:=FZ;clear FZ;have G0:=F0;clear F0;have G1:=F3;clear F3;have LK:=F4;clear F4;have GZ:=F5;clear F5;have LB:=F6;clear F6;have vp:=F1.out;have wk:=F2.out;have lX:=LX.out;have zW:=G0.out;have sX:=G1.out;have lK:=LK.out;have Wa:=GZ.out;have lB:=LB.out;go_wp2_with (first|(go_at_call 150;((with_reducible refine(HCZ.out _ (by repeat (first|exact ji.out|refine bN ?_ _|refine bD ?_|refine bG ?_ _|refine bI ?_ _ _|refine bA ?_ _))).mono ?_));rintro e w' ⟨rfl,hb1⟩;obtain⟨G,rfl⟩:=ay hb1;clear hb1));go_ret;exact⟨by rw [kK.out];rfl,bG dh.out _⟩
 ):p:=h
theorem ado (h:p:=by
 have vE:2<ns[m].kids.length:=Nat.lt_of_lt_of_le ai bK;obtain⟨bk2,ok2,rA,VY,Ir⟩:=cC hN hb hm vE;have BH:=cE ht (List.getElem?_eq_getElem hm) vE;have Pu:(2:Int)<(ns[m].kids.length:Int):=aa;obtain⟨R,hR⟩:∃R,R=aQ ns E K S ns[m] d:=⟨_,rfl⟩;rw [←hR] at hsz ⊢;have hX:R=(if aB ns (ns[m].kids.getD 2 0)=12 then(⟨#[105,102,32]⟩:ByteArray)++E (ns[m].kids.getD 0 0) d++(⟨#[32,116,104,101,110,10]⟩:ByteArray)++aL ns S (ns[m].kids.getD 1 0) (d+1) else(⟨#[105,102,32]⟩:ByteArray)++E (ns[m].kids.getD 0 0) d++(⟨#[32,116,104,101,110,10]⟩:ByteArray)++aL ns S (ns[m].kids.getD 1 0) (d+1)++(bP d++(⟨#[101,108,115,101,10]⟩:ByteArray)++aL ns S (ns[m].kids.getD 2 0) (d+1)))++bP d++(⟨#[101,110,100]⟩:ByteArray):=nW;have iY:ns[m].text.size≤4000:=aT.2;obtain⟨z,hz⟩:∃z:Nat,ns[m].kids.getD 2 0=z:=⟨(ns[m].kids.getD 2 0).toNat,by omega⟩;have hzl:z<ns.length:=aa;have ZU:(z:Int)<(ns.length:Int):=aa;obtain⟨b',o',xX,EG,dz0,dz1,dz2,dz3⟩:=bL hN hb hzl;rw [hp] at xX;cases xX;have Ay:aB ns (ns[m].kids.getD 2 0)=ns[z].kind:=OP;rw [Ay] at hX;have hpz:=gM d;have hs1:(E (ns[m].kids.getD 0 0) d).size+(aL ns S (ns[m].kids.getD 1 0) (d+1)).size≤1000000000:=by
  rw [hX] at hsz;split at hsz<;>simp only [ByteArray.size_append] at hsz<;>omega
 have hs0:ns[z].kind≠12→(E (ns[m].kids.getD 0 0) d).size+(aL ns S (ns[m].kids.getD 1 0) (d+1)).size+(aL ns S (ns[m].kids.getD 2 0) (d+1)).size≤1000000000:=fun h=>by
  rw [hX,if_neg h] at hsz;simp only [ByteArray.size_append] at hsz;omega
 have dm:=hid (fun w hb2=>hE (ns[m].kids.getD 0 0) d w hb2 eA.1 aa aa aa);have kj:=hid (fun w hb2=>mg ht hN aJ hS (ns[m].kids.getD 1 0) (d+1) w hb2 iq.1 aa aa aa aa);rw [show((d+1:Nat):Int)=(d:Int)+1 by omega] at kj;have Iz:=hid (fun(h:ns[z].kind≠12) w hb2=>mg ht hN aJ hS (ns[m].kids.getD 2 0) (d+1) w hb2 BH.1 aa aa aa (by have:=hs0 h;omega));rw [show((d+1:Nat):Int)=(d:Int)+1 by omega] at Iz;have CF:=hid hs0;rw [hz] at Iz CF hX BH;clear hs0;have hP:=hid (fun w=>FW d aa w);generalize E (ns[m].kids.getD 0 0) d=s0 at*;generalize aL ns S (ns[m].kids.getD 1 0) (d+1)=s1 at*;generalize aL ns S (z:Int) (d+1)=s2 at*;generalize bP d=pd at*;generalize ns[m].kids.getD 0 0=k0 at*;generalize ns[m].kids.getD 1 0=k1 at*;have HX:=hid hX;have HB:=hid hb;rw [hz] at Ir;generalize ns[z].kind=zk at*;clear Ay dz1 dz2 dz3 EG hz hzl;clear hE hK hS hR hX hN ht hv aT aJ hsz bK hb hf eA iq BH;generalize ns[m]=x at*;obtain⟨xk,xt,xp,xc,aK,aP⟩:=x;simp only at c0 c1 c2 c3 hk iY HX bu bf dY gC fA mA vE rA Pu CF;subst hk hp;subst bf;cases fA;cases rA;rw [Nat.add_zero] at dQ;generalize ns.length=L at*;generalize aK.length=xl at*;by_cases fV:zk=12
 ·subst fV;have kK:=hid (show R=((⟨#[105,102,32]⟩:ByteArray)++s0++(⟨#[32,116,104,101,110,10]⟩:ByteArray)++s1)++pd++(⟨#[101,110,100]⟩:ByteArray) by rw [HX.out,if_pos rfl]);clear HX Iz CF;obtain⟨wz,cV⟩:∃wz,wz=W'.alloc (.cells #[.int .i64 8,.string xt,.slice (some ⟨aq,aU,none⟩) xl xc,.int .i64 aP] 56):=⟨_,rfl⟩;have ji:=hid (show Below W.heap.size W wz by rw [cV];exact bA HB.out _);have dh:=hid (show Below W'.heap.size W' wz by rw [cV];exact bA (Below.refl _ _) _);have iE:=(show wz.heap[W'.heap.size]?=some (.cells #[.int .i64 8,.string xt,.slice (some ⟨aq,aU,none⟩) xl xc,.int .i64 aP] 56 (0,0)) by rw [cV];exact heap_alloc_new _ _);have F1:=hid (show wz.cell? ⟨W'.heap.size,1,none⟩=some (.string xt) by simp [World.cell?,iE]);have F2:=hid (show wz.cell? ⟨W'.heap.size,2,none⟩=some (.slice (some ⟨aq,aU,none⟩) xl xc) by simp [World.cell?,iE]);have LX:=hid (Array.getElem?_eq_some_iff.1 iE).1;have G0:=hid ((dh.out.cell (p:=⟨aq,_,none⟩) aS).trans dQ);have G1:=hid ((dh.out.cell (p:=⟨aq,_,none⟩) aS).trans oM);have G2:=hid ((dh.out.cell (p:=⟨aq,_,none⟩) aS).trans Ir);have LK:=hid (Nat.lt_of_lt_of_le aS dh.out.size);have GZ:=hid ((dh.out.cell (p:=⟨b,_,none⟩) hlt).trans dz0);have LB:=hid (Nat.lt_of_lt_of_le hlt dh.out.size);have jb:=hid cV;clear cV iE;go_enter Tryz.func97,Tryz.ntmps97;go_wp2;rw [←jb.out];clear jb;refine Am.eV (Φ:=Am.pJ [.slice (some ⟨b,o,none⟩) L c,.pointer (some ⟨W'.heap.size,2,none⟩),.slice (some ⟨aq,aU,none⟩) xl xc,.pointer (some ⟨aq,aU,none⟩),.int .i64 k0,.int .i64 ((d:Int)),.string s0,.string ((⟨#[105,102,32]⟩:ByteArray)++s0),.string ((⟨#[105,102,32]⟩:ByteArray)++s0++(⟨#[32,116,104,101,110,10]⟩:ByteArray)),.slice (some ⟨b,o,none⟩) L c,.pointer (some ⟨W'.heap.size,2,none⟩),.slice (some ⟨aq,aU,none⟩) xl xc,.pointer (some ⟨aq,aU+1,none⟩),.int .i64 k1,.int .i64 ((d:Int)),.int .i64 ((d:Int)+1),.string s1,.string ((⟨#[105,102,32]⟩:ByteArray)++s0++(⟨#[32,116,104,101,110,10]⟩:ByteArray)++s1),.string ((⟨#[105,102,32]⟩:ByteArray)++s0++(⟨#[32,116,104,101,110,10]⟩:ByteArray)++s1)]) ah ah ah Am.cS ?_ ?_
  ·exact agQ
  ·intro ca w1 hb hd hs bV cQ;have h9:ca.tmps.getD 9 undef=.string ((⟨#[105,102,32]⟩:ByteArray)++s0++(⟨#[32,116,104,101,110,10]⟩:ByteArray)++s1):=bV 18 _ 9 rfl rfl;have dV:=Am.dy hd hs cQ;simp only [List.foldl_cons,List.foldl_nil,h9] at dV;generalize ca.tmps.getD 90 undef=y90 at dV;generalize ca.tmps.getD 91 undef=y91 at dV;generalize ca.tmps.getD 92 undef=y92 at dV;generalize ca.tmps.getD 93 undef=y93 at dV;generalize ca.tmps.getD 94 undef=y94 at dV;generalize ca.tmps.getD 95 undef=y95 at dV;generalize ca.tmps.getD 96 undef=y96 at dV;generalize ca.tmps.getD 97 undef=y97 at dV;generalize ca.tmps.getD 98 undef=y98 at dV;generalize ca.tmps.getD 99 undef=y99 at dV;generalize ca.tmps.getD 100 undef=an7 at dV;generalize ca.tmps.getD 101 undef=an8 at dV;generalize ca.tmps.getD 102 undef=an9 at dV;generalize ca.tmps.getD 103 undef=aoa at dV;generalize ca.tmps.getD 104 undef=aob at dV;generalize ca.tmps.getD 105 undef=aoc at dV;generalize ca.tmps.getD 106 undef=aod at dV;generalize ca.tmps.getD 107 undef=aoe at dV;subst dV;simp only [List.setIfInBounds_toArray,List.set_cons_succ,List.set_cons_zero];clear hd hs bV cQ h9;have qm:=hid (ji.out.trans (hb.mono ji.out.size));have qo:=hid (dh.out.trans (hb.mono dh.out.size));have FX:=hid ((hb.cell (p:=⟨W'.heap.size,_,none⟩) LX.out).trans F1.out);have FY:=hid ((hb.cell (p:=⟨W'.heap.size,_,none⟩) LX.out).trans F2.out);have FZ:=hid (Nat.lt_of_lt_of_le LX.out hb.size);have F0:=hid ((hb.cell (p:=⟨aq,_,none⟩) LK.out).trans G0.out);have F3:=hid ((hb.cell (p:=⟨aq,_,none⟩) LK.out).trans G1.out);have G2b:=hid ((hb.cell (p:=⟨aq,_,none⟩) LK.out).trans G2.out);have F4:=hid (Nat.lt_of_lt_of_le LK.out hb.size);have F5:=hid ((hb.cell (p:=⟨b,_,none⟩) LB.out).trans GZ.out);have F6:=hid (Nat.lt_of_lt_of_le LB.out hb.size);clear hb ji dh F1 F2 LX G0 G1 G2 LK GZ LB;have ji:=qm;have dh:=qo;clear qm qo;have F1:=FX;clear FX;have F2:=FY;clear FY;have LX:=FZ;clear FZ;have G0:=F0;clear F0;have G1:=F3;clear F3;have G2:=G2b;clear G2b;have LK:=F4;clear F4;have GZ:=F5;clear F5;have LB:=F6;clear F6;have vp:=F1.out;have wk:=F2.out;have lX:=LX.out;have zW:=G0.out;have sX:=G1.out;have uQ:=G2.out;have lK:=LK.out;have Wa:=GZ.out;have lB:=LB.out;exact Ob
 ·have Ut:(zk==12)=false:=by simp [fV]
  have QB:(zk !=12)=true:=by simp [fV]
  have kK:=hid (show R=(((⟨#[105,102,32]⟩:ByteArray)++s0++(⟨#[32,116,104,101,110,10]⟩:ByteArray)++s1)++(pd++(⟨#[101,108,115,101,10]⟩:ByteArray)++s2))++pd++(⟨#[101,110,100]⟩:ByteArray) by rw [HX.out,if_neg fV]);have HCZ:=hid (Iz.out fV);have Uu:=CF.out fV;clear HX Iz CF;obtain⟨wz,cV⟩:∃wz,wz=W'.alloc (.cells #[.int .i64 8,.string xt,.slice (some ⟨aq,aU,none⟩) xl xc,.int .i64 aP] 56):=⟨_,rfl⟩;have ji:=hid (show Below W.heap.size W wz by rw [cV];exact bA HB.out _);have dh:=hid (show Below W'.heap.size W' wz by rw [cV];exact bA (Below.refl _ _) _);have iE:=(show wz.heap[W'.heap.size]?=some (.cells #[.int .i64 8,.string xt,.slice (some ⟨aq,aU,none⟩) xl xc,.int .i64 aP] 56 (0,0)) by rw [cV];exact heap_alloc_new _ _);have F1:=hid (show wz.cell? ⟨W'.heap.size,1,none⟩=some (.string xt) by simp [World.cell?,iE]);have F2:=hid (show wz.cell? ⟨W'.heap.size,2,none⟩=some (.slice (some ⟨aq,aU,none⟩) xl xc) by simp [World.cell?,iE]);have LX:=hid (Array.getElem?_eq_some_iff.1 iE).1;have G0:=hid ((dh.out.cell (p:=⟨aq,_,none⟩) aS).trans dQ);have G1:=hid ((dh.out.cell (p:=⟨aq,_,none⟩) aS).trans oM);have G2:=hid ((dh.out.cell (p:=⟨aq,_,none⟩) aS).trans Ir);have LK:=hid (Nat.lt_of_lt_of_le aS dh.out.size);have GZ:=hid ((dh.out.cell (p:=⟨b,_,none⟩) hlt).trans dz0);have LB:=hid (Nat.lt_of_lt_of_le hlt dh.out.size);have jb:=hid cV;clear cV iE;go_enter Tryz.func97,Tryz.ntmps97;go_wp2;rw [←jb.out];clear jb;refine Am.eV (Φ:=Am.pJ [.slice (some ⟨b,o,none⟩) L c,.pointer (some ⟨W'.heap.size,2,none⟩),.slice (some ⟨aq,aU,none⟩) xl xc,.pointer (some ⟨aq,aU,none⟩),.int .i64 k0,.int .i64 ((d:Int)),.string s0,.string ((⟨#[105,102,32]⟩:ByteArray)++s0),.string ((⟨#[105,102,32]⟩:ByteArray)++s0++(⟨#[32,116,104,101,110,10]⟩:ByteArray)),.slice (some ⟨b,o,none⟩) L c,.pointer (some ⟨W'.heap.size,2,none⟩),.slice (some ⟨aq,aU,none⟩) xl xc,.pointer (some ⟨aq,aU+1,none⟩),.int .i64 k1,.int .i64 ((d:Int)),.int .i64 ((d:Int)+1),.string s1,.string ((⟨#[105,102,32]⟩:ByteArray)++s0++(⟨#[32,116,104,101,110,10]⟩:ByteArray)++s1),.string ((⟨#[105,102,32]⟩:ByteArray)++s0++(⟨#[32,116,104,101,110,10]⟩:ByteArray)++s1)]) ah ah ah Am.cS ?_ ?_
  ·exact agQ
  ·intro ca w1 hb hd hs bV cQ;have h9:ca.tmps.getD 9 undef=.string ((⟨#[105,102,32]⟩:ByteArray)++s0++(⟨#[32,116,104,101,110,10]⟩:ByteArray)++s1):=bV 18 _ 9 rfl rfl;have dV:=Am.dy hd hs cQ;simp only [List.foldl_cons,List.foldl_nil,h9] at dV;obtain⟨yf,pW⟩:∃y:Nat→Value,∀t,ca.tmps.getD t undef=y t:=⟨_,fun _=>rfl⟩;simp only [pW] at dV;clear pW;subst dV;simp only [List.setIfInBounds_toArray,List.set_cons_succ,List.set_cons_zero];clear hd hs bV cQ h9;have qm:=hid (ji.out.trans (hb.mono ji.out.size));have qo:=hid (dh.out.trans (hb.mono dh.out.size));have FX:=hid ((hb.cell (p:=⟨W'.heap.size,_,none⟩) LX.out).trans F1.out);have FY:=hid ((hb.cell (p:=⟨W'.heap.size,_,none⟩) LX.out).trans F2.out);have FZ:=hid (Nat.lt_of_lt_of_le LX.out hb.size);have F0:=hid ((hb.cell (p:=⟨aq,_,none⟩) LK.out).trans G0.out);have F3:=hid ((hb.cell (p:=⟨aq,_,none⟩) LK.out).trans G1.out);have G2b:=hid ((hb.cell (p:=⟨aq,_,none⟩) LK.out).trans G2.out);have F4:=hid (Nat.lt_of_lt_of_le LK.out hb.size);have F5:=hid ((hb.cell (p:=⟨b,_,none⟩) LB.out).trans GZ.out);have F6:=hid (Nat.lt_of_lt_of_le LB.out hb.size);clear hb ji dh F1 F2 LX G0 G1 G2 LK GZ LB;have ji:=qm;have dh:=qo;clear qm qo;have F1:=FX;clear FX;have F2:=FY;clear FY;have LX:=FZ;clear FZ;have G0:=F0;clear F0;have G1:=F3;clear F3;have G2:=G2b;clear G2b;have LK:=F4;clear F4;have GZ:=F5;clear F5;have LB:=F6;clear F6;have vp:=F1.out;have wk:=F2.out;have lX:=LX.out;have zW:=G0.out;have sX:=G1.out;have uQ:=G2.out;have lK:=LK.out;have Wa:=GZ.out;have lB:=LB.out;go_wp2;clear vp wk lX zW sX uQ lK Wa lB;obtain⟨wy,rfl⟩:∃wy,wy=w1:=⟨_,rfl⟩;refine wp_region_any ah ?_;refine Am.eJ _ 14 rfl ah ?_;simp only [List.take_succ_cons,List.take_zero];refine Am.cq (Φ:=Am.pJ [.string ((⟨#[105,102,32]⟩:ByteArray)++s0++(⟨#[32,116,104,101,110,10]⟩:ByteArray)++s1),.int .i64 ((d:Int)),.string pd,.string (pd++(⟨#[101,108,115,101,10]⟩:ByteArray)),.slice (some ⟨b,o,none⟩) L c,.pointer (some ⟨W'.heap.size,2,none⟩),.slice (some ⟨aq,aU,none⟩) xl xc,.pointer (some ⟨aq,aU+2,none⟩),.int .i64 ((z:Int)),.int .i64 ((d:Int)),.int .i64 ((d:Int)+1),.string s2,.string (pd++(⟨#[101,108,115,101,10]⟩:ByteArray)++s2),.string ((⟨#[105,102,32]⟩:ByteArray)++s0++(⟨#[32,116,104,101,110,10]⟩:ByteArray)++s1++(pd++(⟨#[101,108,115,101,10]⟩:ByteArray)++s2))]) (w0:=wy) ah ah Am.cS ?_ ?_ _ ((Below.refl _ _).drew)
   ·have Wb:=trivial;exact V8
   ·intro ca w1 hb hd hs bV cQ;have aho:ca.tmps.getD 130 undef=.string ((⟨#[105,102,32]⟩:ByteArray)++s0++(⟨#[32,116,104,101,110,10]⟩:ByteArray)++s1++(pd++(⟨#[101,108,115,101,10]⟩:ByteArray)++s2)):=bV 13 _ 130 rfl rfl;have dV:=Am.dy hd hs cQ;simp only [List.foldl_cons,List.foldl_nil,aho] at dV;obtain⟨yf,pW⟩:∃y:Nat→Value,∀t,ca.tmps.getD t undef=y t:=⟨_,fun _=>rfl⟩;simp only [pW] at dV;clear pW;subst dV;simp only [List.setIfInBounds_toArray,List.set_cons_succ,List.set_cons_zero];simp only [Am.jJ];clear hd hs bV cQ aho;have qm:=hid (ji.out.trans (hb.mono ji.out.size));have qo:=hid (dh.out.trans (hb.mono dh.out.size));have FX:=hid ((hb.cell (p:=⟨W'.heap.size,_,none⟩) LX.out).trans F1.out);have FY:=hid ((hb.cell (p:=⟨W'.heap.size,_,none⟩) LX.out).trans F2.out);have FZ:=hid (Nat.lt_of_lt_of_le LX.out hb.size);have F0:=hid ((hb.cell (p:=⟨aq,_,none⟩) LK.out).trans G0.out);have F3:=hid ((hb.cell (p:=⟨aq,_,none⟩) LK.out).trans G1.out);have G2b:=hid ((hb.cell (p:=⟨aq,_,none⟩) LK.out).trans G2.out);have F4:=hid (Nat.lt_of_lt_of_le LK.out hb.size);have F5:=hid ((hb.cell (p:=⟨b,_,none⟩) LB.out).trans GZ.out);have F6:=hid (Nat.lt_of_lt_of_le LB.out hb.size);clear hb ji dh F1 F2 LX G0 G1 G2 LK GZ LB;have ji:=qm;have dh:=qo;clear qm qo;have F1:=FX;clear FX;have F2:=FY;clear FY;have LX:=FZ;clear FZ;have G0:=F0;clear F0;have G1:=F3;clear F3;have G2:=G2b;clear G2b;have LK:=F4;clear F4;have GZ:=F5;clear F5;have LB:=F6;clear F6;exact Ob
 ):p:=h
theorem adp (h:p:=by
 obtain⟨R,hR⟩:∃R,R=aF ns E K S ns[m] d:=⟨_,rfl⟩;rw [←hR] at hsz ⊢;obtain⟨aaO,aaP⟩:=pO 27 ns[m].text.toList;have hX:R=bB ns E (ns[m].kids.getD 0 0) (aH 27 ns[m].text.toList) d++(⟨#[32]⟩:ByteArray)++ns[m].text++(⟨#[32]⟩:ByteArray)++bB ns E (ns[m].kids.getD 1 0) (aH 27 ns[m].text.toList+1) d:=by
  exact EB
 have iY:ns[m].text.size≤4000:=aT.2;have aj:=hsz;rw [hX] at aj
 try simp only [ByteArray.size_append] at aj
 have dm:=hid (fun w hb2=>gN ht hN aJ hE (ns[m].kids.getD 0 0) (aH 27 ns[m].text.toList) d w hb2 eA.1 aa aa aa aa);have kj:=hid (fun w hb2=>gN ht hN aJ hE (ns[m].kids.getD 1 0) (aH 27 ns[m].text.toList+1) d w hb2 iq.1 aa aa aa aa);have A6:=hid (fun w=>tF ns[m].kind ns[m].text ns[m].kp ns[m].kids.length ns[m].aG ns[m].place w);rw [hk] at A6;generalize bB ns E (ns[m].kids.getD 0 0) (aH 27 ns[m].text.toList) d=s0 at*;generalize bB ns E (ns[m].kids.getD 1 0) (aH 27 ns[m].text.toList+1) d=s1 at*;generalize ns[m].kids.getD 0 0=k0 at*;generalize ns[m].kids.getD 1 0=k1 at*;generalize aH 27 ns[m].text.toList=q at*;have HX:=hid hX;have HB:=hid hb;clear hE hR hX hN ht hv aT aJ hsz eA iq bK hb aX;generalize ns[m]=x at*;obtain⟨xk,xt,xp,xc,aK,aP⟩:=x;simp only at c0 c1 c2 c3 hk iY HX A6 bu bf dY gC fA mA;subst hk hp;subst bf;cases fA;rw [Nat.add_zero] at dQ;generalize ns.length=L at*;generalize aK.length=xl at*;obtain⟨wz,cV⟩:∃wz,wz=W'.alloc (.cells #[.int .i64 27,.string xt,.slice (some ⟨aq,aU,none⟩) xl xc,.int .i64 aP] 56):=⟨_,rfl⟩;have ji:=hid (show Below W.heap.size W wz by rw [cV];exact bA HB.out _);have dh:=hid (show Below W'.heap.size W' wz by rw [cV];exact bA (Below.refl _ _) _);have iE:=hid (show wz.heap[W'.heap.size]?=some (.cells #[.int .i64 27,.string xt,.slice (some ⟨aq,aU,none⟩) xl xc,.int .i64 aP] 56 (0,0)) by rw [cV];exact heap_alloc_new _ _);have cz0:=hid ((dh.out.cell (p:=⟨aq,_,none⟩) aS).trans dQ);have cz1:=hid ((dh.out.cell (p:=⟨aq,_,none⟩) aS).trans oM);have bQ:=hid (Nat.lt_of_lt_of_le aS dh.out.size);have jb:=hid cV;clear cV;go_enter Tryz.func150,Tryz.ntmps150;go_wp2;rw [←jb.out];clear jb;refine Am.eV (Φ:=Am.pJ [.slice (some ⟨b,o,none⟩) L c,.pointer (some ⟨W'.heap.size,2,none⟩),.slice (some ⟨aq,aU,none⟩) xl xc,.pointer (some ⟨aq,aU,none⟩),.int .i64 k0,.agg #[.int .i64 27,.string xt,.slice (some ⟨aq,aU,none⟩) xl xc,.int .i64 aP],.int .i64 q,.int .i64 ((d:Int)),.string s0,.string (s0++(⟨#[32]⟩:ByteArray)),.string xt,.string (s0++(⟨#[32]⟩:ByteArray)++xt),.string (s0++(⟨#[32]⟩:ByteArray)++xt++(⟨#[32]⟩:ByteArray)),.slice (some ⟨b,o,none⟩) L c,.pointer (some ⟨W'.heap.size,2,none⟩),.slice (some ⟨aq,aU,none⟩) xl xc,.pointer (some ⟨aq,aU+1,none⟩),.int .i64 k1,.agg #[.int .i64 27,.string xt,.slice (some ⟨aq,aU,none⟩) xl xc,.int .i64 aP],.int .i64 q,.int .i64 (q+1),.int .i64 ((d:Int)),.string s1,.string (s0++(⟨#[32]⟩:ByteArray)++xt++(⟨#[32]⟩:ByteArray)++s1),.string (s0++(⟨#[32]⟩:ByteArray)++xt++(⟨#[32]⟩:ByteArray)++s1)]) ah ah ah Am.cS ?_ ?_
 ·have Wc:=trivial;exact adq
 ·intro ca w1 hb hd hs bV cQ;have h6:ca.tmps.getD 6 undef=.string (s0++(⟨#[32]⟩:ByteArray)++xt++(⟨#[32]⟩:ByteArray)++s1):=bV 24 _ 6 rfl rfl;exact xQ
 ):p:=h
theorem adr (h:p:=by
 obtain⟨R,hR⟩:∃R,R=aF ns E K S ns[m] d:=⟨_,rfl⟩;rw [←hR] at hsz ⊢;obtain⟨aaO,aaP⟩:=pO 29 ns[m].text.toList;have hX:R=bB ns E (ns[m].kids.getD 0 0) (aH 29 ns[m].text.toList) d++(⟨#[32]⟩:ByteArray)++(⟨#[97,110,100]⟩:ByteArray)++(⟨#[32]⟩:ByteArray)++bB ns E (ns[m].kids.getD 1 0) (aH 29 ns[m].text.toList+1) d:=by
  exact EB
 have iY:ns[m].text.size≤4000:=aT.2;have aj:=hsz;rw [hX] at aj
 try simp only [ByteArray.size_append] at aj
 have dm:=hid (fun w hb2=>gN ht hN aJ hE (ns[m].kids.getD 0 0) (aH 29 ns[m].text.toList) d w hb2 eA.1 aa aa aa aa);have kj:=hid (fun w hb2=>gN ht hN aJ hE (ns[m].kids.getD 1 0) (aH 29 ns[m].text.toList+1) d w hb2 iq.1 aa aa aa aa);have A6:=hid (fun w=>tF ns[m].kind ns[m].text ns[m].kp ns[m].kids.length ns[m].aG ns[m].place w);rw [hk] at A6;generalize bB ns E (ns[m].kids.getD 0 0) (aH 29 ns[m].text.toList) d=s0 at*;generalize bB ns E (ns[m].kids.getD 1 0) (aH 29 ns[m].text.toList+1) d=s1 at*;generalize ns[m].kids.getD 0 0=k0 at*;generalize ns[m].kids.getD 1 0=k1 at*;generalize aH 29 ns[m].text.toList=q at*;have HX:=hid hX;have HB:=hid hb;clear hE hR hX hN ht hv aT aJ hsz eA iq bK hb aX;generalize ns[m]=x at*;obtain⟨xk,xt,xp,xc,aK,aP⟩:=x;simp only at c0 c1 c2 c3 hk iY HX A6 bu bf dY gC fA mA;subst hk hp;subst bf;cases fA;rw [Nat.add_zero] at dQ;generalize ns.length=L at*;generalize aK.length=xl at*;obtain⟨wz,cV⟩:∃wz,wz=W'.alloc (.cells #[.int .i64 29,.string xt,.slice (some ⟨aq,aU,none⟩) xl xc,.int .i64 aP] 56):=⟨_,rfl⟩;have ji:=hid (show Below W.heap.size W wz by rw [cV];exact bA HB.out _);have dh:=hid (show Below W'.heap.size W' wz by rw [cV];exact bA (Below.refl _ _) _);have iE:=hid (show wz.heap[W'.heap.size]?=some (.cells #[.int .i64 29,.string xt,.slice (some ⟨aq,aU,none⟩) xl xc,.int .i64 aP] 56 (0,0)) by rw [cV];exact heap_alloc_new _ _);have cz0:=hid ((dh.out.cell (p:=⟨aq,_,none⟩) aS).trans dQ);have cz1:=hid ((dh.out.cell (p:=⟨aq,_,none⟩) aS).trans oM);have bQ:=hid (Nat.lt_of_lt_of_le aS dh.out.size);have jb:=hid cV;clear cV;go_enter Tryz.func150,Tryz.ntmps150;go_wp2;rw [←jb.out];clear jb;refine Am.eV (Φ:=Am.pJ [.slice (some ⟨b,o,none⟩) L c,.pointer (some ⟨W'.heap.size,2,none⟩),.slice (some ⟨aq,aU,none⟩) xl xc,.pointer (some ⟨aq,aU,none⟩),.int .i64 k0,.agg #[.int .i64 29,.string xt,.slice (some ⟨aq,aU,none⟩) xl xc,.int .i64 aP],.int .i64 q,.int .i64 ((d:Int)),.string s0,.string (s0++(⟨#[32]⟩:ByteArray)),.string ((⟨#[97,110,100]⟩:ByteArray)),.string (s0++(⟨#[32]⟩:ByteArray)++(⟨#[97,110,100]⟩:ByteArray)),.string (s0++(⟨#[32]⟩:ByteArray)++(⟨#[97,110,100]⟩:ByteArray)++(⟨#[32]⟩:ByteArray)),.slice (some ⟨b,o,none⟩) L c,.pointer (some ⟨W'.heap.size,2,none⟩),.slice (some ⟨aq,aU,none⟩) xl xc,.pointer (some ⟨aq,aU+1,none⟩),.int .i64 k1,.agg #[.int .i64 29,.string xt,.slice (some ⟨aq,aU,none⟩) xl xc,.int .i64 aP],.int .i64 q,.int .i64 (q+1),.int .i64 ((d:Int)),.string s1,.string (s0++(⟨#[32]⟩:ByteArray)++(⟨#[97,110,100]⟩:ByteArray)++(⟨#[32]⟩:ByteArray)++s1),.string (s0++(⟨#[32]⟩:ByteArray)++(⟨#[97,110,100]⟩:ByteArray)++(⟨#[32]⟩:ByteArray)++s1)]) ah ah ah Am.cS ?_ ?_
 ·have Wd:=trivial;exact adq
 ·intro ca w1 hb hd hs bV cQ;have h6:ca.tmps.getD 6 undef=.string (s0++(⟨#[32]⟩:ByteArray)++(⟨#[97,110,100]⟩:ByteArray)++(⟨#[32]⟩:ByteArray)++s1):=bV 24 _ 6 rfl rfl;exact xQ
 ):p:=h
theorem ads (h:p:=by
 obtain⟨R,hR⟩:∃R,R=aF ns E K S ns[m] d:=⟨_,rfl⟩;rw [←hR] at hsz ⊢;obtain⟨aaO,aaP⟩:=pO 30 ns[m].text.toList;have hX:R=bB ns E (ns[m].kids.getD 0 0) (aH 30 ns[m].text.toList) d++(⟨#[32]⟩:ByteArray)++(⟨#[111,114]⟩:ByteArray)++(⟨#[32]⟩:ByteArray)++bB ns E (ns[m].kids.getD 1 0) (aH 30 ns[m].text.toList+1) d:=by
  exact EB
 have iY:ns[m].text.size≤4000:=aT.2;have aj:=hsz;rw [hX] at aj
 try simp only [ByteArray.size_append] at aj
 have dm:=hid (fun w hb2=>gN ht hN aJ hE (ns[m].kids.getD 0 0) (aH 30 ns[m].text.toList) d w hb2 eA.1 aa aa aa aa);have kj:=hid (fun w hb2=>gN ht hN aJ hE (ns[m].kids.getD 1 0) (aH 30 ns[m].text.toList+1) d w hb2 iq.1 aa aa aa aa);have A6:=hid (fun w=>tF ns[m].kind ns[m].text ns[m].kp ns[m].kids.length ns[m].aG ns[m].place w);rw [hk] at A6;generalize bB ns E (ns[m].kids.getD 0 0) (aH 30 ns[m].text.toList) d=s0 at*;generalize bB ns E (ns[m].kids.getD 1 0) (aH 30 ns[m].text.toList+1) d=s1 at*;generalize ns[m].kids.getD 0 0=k0 at*;generalize ns[m].kids.getD 1 0=k1 at*;generalize aH 30 ns[m].text.toList=q at*;have HX:=hid hX;have HB:=hid hb;clear hE hR hX hN ht hv aT aJ hsz eA iq bK hb aX;generalize ns[m]=x at*;obtain⟨xk,xt,xp,xc,aK,aP⟩:=x;simp only at c0 c1 c2 c3 hk iY HX A6 bu bf dY gC fA mA;subst hk hp;subst bf;cases fA;rw [Nat.add_zero] at dQ;generalize ns.length=L at*;generalize aK.length=xl at*;obtain⟨wz,cV⟩:∃wz,wz=W'.alloc (.cells #[.int .i64 30,.string xt,.slice (some ⟨aq,aU,none⟩) xl xc,.int .i64 aP] 56):=⟨_,rfl⟩;have ji:=hid (show Below W.heap.size W wz by rw [cV];exact bA HB.out _);have dh:=hid (show Below W'.heap.size W' wz by rw [cV];exact bA (Below.refl _ _) _);have iE:=hid (show wz.heap[W'.heap.size]?=some (.cells #[.int .i64 30,.string xt,.slice (some ⟨aq,aU,none⟩) xl xc,.int .i64 aP] 56 (0,0)) by rw [cV];exact heap_alloc_new _ _);have cz0:=hid ((dh.out.cell (p:=⟨aq,_,none⟩) aS).trans dQ);have cz1:=hid ((dh.out.cell (p:=⟨aq,_,none⟩) aS).trans oM);have bQ:=hid (Nat.lt_of_lt_of_le aS dh.out.size);have jb:=hid cV;clear cV;go_enter Tryz.func150,Tryz.ntmps150;go_wp2;rw [←jb.out];clear jb;refine Am.eV (Φ:=Am.pJ [.slice (some ⟨b,o,none⟩) L c,.pointer (some ⟨W'.heap.size,2,none⟩),.slice (some ⟨aq,aU,none⟩) xl xc,.pointer (some ⟨aq,aU,none⟩),.int .i64 k0,.agg #[.int .i64 30,.string xt,.slice (some ⟨aq,aU,none⟩) xl xc,.int .i64 aP],.int .i64 q,.int .i64 ((d:Int)),.string s0,.string (s0++(⟨#[32]⟩:ByteArray)),.string ((⟨#[111,114]⟩:ByteArray)),.string (s0++(⟨#[32]⟩:ByteArray)++(⟨#[111,114]⟩:ByteArray)),.string (s0++(⟨#[32]⟩:ByteArray)++(⟨#[111,114]⟩:ByteArray)++(⟨#[32]⟩:ByteArray)),.slice (some ⟨b,o,none⟩) L c,.pointer (some ⟨W'.heap.size,2,none⟩),.slice (some ⟨aq,aU,none⟩) xl xc,.pointer (some ⟨aq,aU+1,none⟩),.int .i64 k1,.agg #[.int .i64 30,.string xt,.slice (some ⟨aq,aU,none⟩) xl xc,.int .i64 aP],.int .i64 q,.int .i64 (q+1),.int .i64 ((d:Int)),.string s1,.string (s0++(⟨#[32]⟩:ByteArray)++(⟨#[111,114]⟩:ByteArray)++(⟨#[32]⟩:ByteArray)++s1),.string (s0++(⟨#[32]⟩:ByteArray)++(⟨#[111,114]⟩:ByteArray)++(⟨#[32]⟩:ByteArray)++s1)]) ah ah ah Am.cS ?_ ?_
 ·have We:=trivial;exact adq
 ·intro ca w1 hb hd hs bV cQ;have h6:ca.tmps.getD 6 undef=.string (s0++(⟨#[32]⟩:ByteArray)++(⟨#[111,114]⟩:ByteArray)++(⟨#[32]⟩:ByteArray)++s1):=bV 24 _ 6 rfl rfl;exact xQ
 ):p:=h
theorem EF (h:p:=by
 have gC:1<ns[m].kids.length:=Nat.lt_of_lt_of_le ai bK;obtain⟨bk1,ok1,fA,Bl,oM⟩:=cC hN hb hm gC;have iq:=cE ht (List.getElem?_eq_getElem hm) gC;have mA:(1:Int)<(ns[m].kids.length:Int):=aa
 first
 |(have:=Uq;exact adl)
 |(have:=Us;exact adm)
 |(have:=Uv;exact adn)
 |(have:=Uw;exact ado)
 |(have:=UF;exact adp)
 |(have:=UG;exact adr)
 |(have:=UH;exact ads)
 ):p:=h
theorem adt (h:p:=by
 obtain⟨R,hR⟩:∃R,R=bW ns K ns[m]:=⟨_,rfl⟩;rw [←hR] at hsz ⊢;have hX:R=jt ⟨#[32,124,32]⟩ (fun i=>K (ns[m].kids.getD i 0)) ns[m].kids.length:=ya;have aj:=hsz;rw [hX] at aj
 try simp only [ByteArray.size_append] at aj
 obtain⟨bk,ok,fO,fu,_⟩:=jC 0 (Nat.lt_of_lt_of_le ai bK);have iz:∀i,i<ns[m].kids.length→W'.cell? ⟨bk,ok+i,none⟩=some (.int .i64 (ns[m].kids.getD i 0)):=fun i hi=>by
  exact EA
 have iC:∀i,i≤ns[m].kids.length→(jt ⟨#[32,124,32]⟩ (fun i=>K (ns[m].kids.getD i 0)) i).size≤1000000000:=fun i hi=>Nat.le_trans (jo _ _ i _ hi) aj
 have hC:∀i,i<ns[m].kids.length→∀w,Below W.heap.size W w→Calls Tryz.prog 201 #[.slice p ns.length c,.int .i64 (ns[m].kids.getD i 0)] w fun e w'=>e=.returned (.string (K (ns[m].kids.getD i 0)))∧Below w.heap.size w w':=fun i hi w hb2=>by
  exact N6
 have HM:=hid hC;have HZ:=hid iC;have HX:=hid hX;have HB:=hid hb;clear hC iC;clear hK hR hX hN ht hv aT aJ hsz bK hb aX hf hq jC;generalize ns[m]=x at*;obtain⟨xk,xt,xp,xc,aK,aP⟩:=x;simp only at c0 c1 c2 c3 hk iY HX QS fO iz HM HZ;subst hk hp;subst fO;obtain⟨wz,cV⟩:∃wz,wz=W'.alloc (.cells #[.int .i64 35,.string xt,.slice (some ⟨bk,ok,none⟩) aK.length xc,.int .i64 aP] 56):=⟨_,rfl⟩;have ji:=hid (show Below W.heap.size W wz by rw [cV];exact bA HB.out _);have dh:=hid (show Below W'.heap.size W' wz by rw [cV];exact bA (Below.refl _ _) _);have iE:=(show wz.heap[W'.heap.size]?=some (.cells #[.int .i64 35,.string xt,.slice (some ⟨bk,ok,none⟩) aK.length xc,.int .i64 aP] 56 (0,0)) by rw [cV];exact heap_alloc_new _ _);have vp:wz.cell? ⟨W'.heap.size,1,none⟩=some (.string xt):=yb;have wk:wz.cell? ⟨W'.heap.size,2,none⟩=some (.slice (some ⟨bk,ok,none⟩) aK.length xc):=yb;have hXl:W'.heap.size<wz.heap.size:=(Array.getElem?_eq_some_iff.1 iE).1;have jb:=hid cV;have HXX:=hid hXl;clear cV iE;have mh:=hid (fun i (hi:i<aK.length)=>(dh.out.cell (p:=⟨bk,_,none⟩) fu).trans (iz i hi));have ahs:bk<wz.heap.size:=Nat.lt_of_lt_of_le fu dh.out.size;have aht:b<wz.heap.size:=Nat.lt_of_lt_of_le hlt dh.out.size;clear iz;generalize ns.length=L at*;go_enter Tryz.func201,Tryz.ntmps201;go_wp2;rw [←jb.out];clear jb;go_loopw [6,99] (fun sv iv wr=>∃(i:Nat) (g:fk),i≤aK.length∧sv=.string (jt ⟨#[32,124,32]⟩ (fun i=>K (aK.getD i 0)) i)∧iv=.int .i64 (i:Int)∧wr=grow wz g) (fun _ iv _=>aK.length - (intOf iv).toNat)
 case atStart=>obtain⟨g0,hg0⟩:=ay (Below.refl wz.heap.size wz);exact⟨0,g0,Nat.zero_le _,rfl,rfl,hg0⟩
 case round=>
  obtain⟨i,g,hi,rfl,rfl,rfl⟩:=hrel;by_cases di:i<aK.length
  ·have hcell:=mh.out i di;have h1:(i:Int)<(aK.length:Int):=aa;have hstep:jt ⟨#[32,124,32]⟩ (fun i=>K (aK.getD i 0)) (i+1)=(if 0<i then jt ⟨#[32,124,32]⟩ (fun i=>K (aK.getD i 0)) i++⟨#[32,124,32]⟩ else jt ⟨#[32,124,32]⟩ (fun i=>K (aK.getD i 0)) i)++K (aK.getD i 0):=rfl;have hz0:=HZ.out i hi;have hz1:=HZ.out (i+1) di;rw [hstep] at hz1;have TB:=hid (HM.out i di);have sR:=hid hstep;clear hstep mh HZ HM aj;generalize jt ⟨#[32,124,32]⟩ (fun i=>K (aK.getD i 0)) i=T at*;generalize aK.getD i 0=q at*;generalize K q=tz at*;have hz2:(⟨#[32,124,32]⟩:ByteArray).size=3:=rfl;exact YV
  ·obtain rfl:i=aK.length:=by omega
   have hz0:=HZ.out aK.length (Nat.le_refl _);clear mh HZ HM;go_wp2;exact EC
 ):p:=h
theorem adu (h:p:=by
 obtain⟨n1,xC⟩:∃n1,ns[m].kids.length=n1+1:=⟨ns[m].kids.length - 1,by have:1≤ns[m].kids.length:=bK;omega⟩;obtain⟨R,hR⟩:∃R,R=bW ns K ns[m]:=⟨_,rfl⟩;rw [←hR] at hsz ⊢;have hX:R=(⟨#[40]⟩:ByteArray)++jt ⟨#[44,32]⟩ (fun i=>K (ns[m].kids.getD i 0)) n1++(⟨#[41,32,45,62,32]⟩:ByteArray)++K (ns[m].kids.getD n1 0):=by
  rw [hR,bW,hk,xC];rfl
 have aj:=hsz;rw [hX] at aj;simp only [ByteArray.size_append] at aj;obtain⟨bk,ok,fO,fu,_⟩:=jC 0 (Nat.lt_of_lt_of_le ai bK);have iz:∀i,i<n1→W'.cell? ⟨bk,ok+i,none⟩=some (.int .i64 (ns[m].kids.getD i 0)):=fun i hi=>by
  exact EA
 have iC:∀i,i≤n1→(jt ⟨#[44,32]⟩ (fun i=>K (ns[m].kids.getD i 0)) i).size≤1000000000:=fun i hi=>by
  have h1:=jo ⟨#[44,32]⟩ (fun i=>K (ns[m].kids.getD i 0)) i _ hi;omega
 have hC:∀i,i<n1→∀w,Below W.heap.size W w→Calls Tryz.prog 201 #[.slice p ns.length c,.int .i64 (ns[m].kids.getD i 0)] w fun e w'=>e=.returned (.string (K (ns[m].kids.getD i 0)))∧Below w.heap.size w w':=fun i hi w hb2=>by
  exact N6
 have FV:=hq n1 aa;obtain⟨bk',ok',qb,BM,uD⟩:=jC n1 aa;rw [fO] at qb;cases qb;have QT:=hid (fun w hb2=>hK (ns[m].kids.getD n1 0) w hb2 FV.1 aa aa);have hxn:(n1:Int)≤10000:=aa;obtain⟨kc,mj⟩:∃kc,ns[m].aG=kc:=⟨_,rfl⟩;have A7:(n1:Int)+1≤(kc:Int):=aa;have KQ:¬(kc:Int)=0:=aa;have KR:¬kc=0:=aa;rw [fO,xC,mj] at c2;have ahu:(jt ⟨#[44,32]⟩ (fun i=>K (ns[m].kids.getD i 0)) n1).size+(K (ns[m].kids.getD n1 0)).size≤1000000000:=aa;have HM:=hid hC;have HZ:=hid iC;have HX:=hid hX;have HB:=hid hb;clear hC iC;clear hK hR hX hN ht hv aT aJ hsz bK hb aX hf hq jC FV xC QS fO mj aj;generalize ns[m].kids.getD n1 0=ka at*;generalize K ka=ta at*;generalize ns[m]=x at*;obtain⟨xk,xt,xp,xc,aK,aP⟩:=x;simp only at c0 c1 c2 c3 hk iY HX iz HM HZ uD ahu;subst hk hp;obtain⟨wz,cV⟩:∃wz,wz=W'.alloc (.cells #[.int .i64 34,.string xt,.slice (some ⟨bk,ok,none⟩) (n1+1) kc,.int .i64 aP] 56):=⟨_,rfl⟩;have ji:=hid (show Below W.heap.size W wz by rw [cV];exact bA HB.out _);have dh:=hid (show Below W'.heap.size W' wz by rw [cV];exact bA (Below.refl _ _) _);have iE:=(show wz.heap[W'.heap.size]?=some (.cells #[.int .i64 34,.string xt,.slice (some ⟨bk,ok,none⟩) (n1+1) kc,.int .i64 aP] 56 (0,0)) by rw [cV];exact heap_alloc_new _ _);have vp:wz.cell? ⟨W'.heap.size,1,none⟩=some (.string xt):=yb;have wk:wz.cell? ⟨W'.heap.size,2,none⟩=some (.slice (some ⟨bk,ok,none⟩) (n1+1) kc):=yb;have hXl:W'.heap.size<wz.heap.size:=(Array.getElem?_eq_some_iff.1 iE).1;have jb:=hid cV;have HXX:=hid hXl;clear cV iE;have mh:=hid (fun i (hi:i<n1)=>(dh.out.cell (p:=⟨bk,_,none⟩) fu).trans (iz i hi));have ahs:bk<wz.heap.size:=Nat.lt_of_lt_of_le fu dh.out.size;have aht:b<wz.heap.size:=Nat.lt_of_lt_of_le hlt dh.out.size;clear iz;have ckz:=(dh.out.cell (p:=⟨bk,_,none⟩) fu).trans uD;generalize ns.length=L at*;go_enter Tryz.func201,Tryz.ntmps201;go_wp2;rw [←jb.out];clear jb;go_loopw [6,65] (fun sv iv wr=>∃(i:Nat) (g:fk),i≤n1∧sv=.string (jt ⟨#[44,32]⟩ (fun i=>K (aK.getD i 0)) i)∧iv=.int .i64 (i:Int)∧wr=grow wz g) (fun _ iv _=>n1 - (intOf iv).toNat)
 case atStart=>obtain⟨g0,hg0⟩:=ay (Below.refl wz.heap.size wz);exact⟨0,g0,Nat.zero_le _,rfl,rfl,hg0⟩
 case round=>
  obtain⟨i,g,hi,rfl,rfl,rfl⟩:=hrel;by_cases di:i<n1
  ·have hcell:=mh.out i di;have h1:(i:Int)<(n1:Int):=aa;have hstep:jt ⟨#[44,32]⟩ (fun i=>K (aK.getD i 0)) (i+1)=(if 0<i then jt ⟨#[44,32]⟩ (fun i=>K (aK.getD i 0)) i++⟨#[44,32]⟩ else jt ⟨#[44,32]⟩ (fun i=>K (aK.getD i 0)) i)++K (aK.getD i 0):=rfl;have hz0:=HZ.out i hi;have hz1:=HZ.out (i+1) di;rw [hstep] at hz1;have TB:=hid (HM.out i di);have sR:=hid hstep;clear hstep mh HZ HM ahu;generalize jt ⟨#[44,32]⟩ (fun i=>K (aK.getD i 0)) i=T at*;generalize aK.getD i 0=q at*;generalize K q=tz at*;have hz2:(⟨#[44,32]⟩:ByteArray).size=2:=rfl;exact YV
  ·obtain rfl:i=n1:=by omega
   have hz0:=HZ.out i (Nat.le_refl _);clear mh HZ HM;generalize hT:jt ⟨#[44,32]⟩ (fun i=>K (aK.getD i 0)) i=T at*;have HT:=hid hT;clear hT;go_wp2_with (first|(go_at_call 201;(with_reducible refine(QT.out _ (bG ji.out _)).mono ?_);rintro e w' ⟨rfl,hb1⟩;obtain⟨G,rfl⟩:=ay hb1;clear hb1));exact EC
 ):p:=h
theorem adv (h:p:=by
 obtain⟨R,hR⟩:∃R,R=bW ns K ns[m]:=⟨_,rfl⟩;rw [←hR] at hsz ⊢;have hX:R=(⟨#[123]⟩:ByteArray)++jt ⟨#[44,32]⟩ (fun i=>cO ns K (ns[m].kids.getD i 0)) ns[m].kids.length++(⟨#[125]⟩:ByteArray):=ya;have aj:=hsz;rw [hX] at aj;simp only [ByteArray.size_append] at aj;have iC:∀i,i≤ns[m].kids.length→(jt ⟨#[44,32]⟩ (fun i=>cO ns K (ns[m].kids.getD i 0)) i).size≤1000000000:=fun i hi=>by
  have h1:=jo ⟨#[44,32]⟩ (fun i=>cO ns K (ns[m].kids.getD i 0)) i _ hi;have e1:(⟨#[123]⟩:ByteArray).size=1:=rfl;have e2:(⟨#[125]⟩:ByteArray).size=1:=rfl;omega
 have hpm:∀i,i<ns[m].kids.length→∃(z bz oz zl zc:Nat) (kz:Int),ns[m].kids.getD i 0=(z:Int)∧(z:Int)<(ns.length:Int)∧W'.cell? ⟨b,o+z*4+1,none⟩=some (.string (eY ns (z:Int)))∧W'.cell? ⟨b,o+z*4+2,none⟩=some (.slice (some ⟨bz,oz,none⟩) zl zc)∧(0:Int)<(zl:Int)∧bz<W'.heap.size∧
   W'.cell? ⟨bz,oz,none⟩=some (.int .i64 kz)∧cO ns K (ns[m].kids.getD i 0)=eY ns (z:Int)++(⟨#[58,32]⟩:ByteArray)++K kz∧(∀w,Below W.heap.size W w→Calls Tryz.prog 201 #[.slice p ns.length c,.int .i64 kz] w fun e w'=>e=.returned (.string (K kz))∧Below w.heap.size w w'):=fun i hi=>by
  obtain⟨h0,h1⟩:=hq i hi;have AO:=kr (c:=70) (f:=[]) hf ai ai (i:=i) (by show i<ns[m].kids.length - 0;omega);obtain⟨z,hz⟩:∃z:Nat,ns[m].kids.getD i 0=z:=⟨(ns[m].kids.getD i 0).toNat,by omega⟩;rw [hz] at AO h0 h1;have hzl:z<ns.length:=aa;have h33:ns[z].kind.toNat=33:=FU;have Ec:=bM (ht.all z ns[z] hzl (List.getElem?_eq_getElem hzl));rw [h33] at Ec;obtain⟨bz,oz,d1,d2,d3,d4,d5,d6⟩:=tD ht hN hb hzl Ec hp;have IA:cO ns K (ns[m].kids.getD i 0)=eY ns (z:Int)++(⟨#[58,32]⟩:ByteArray)++K ((bp ns (z:Int)).getD 0 0):=by rw [hz];rfl
  refine⟨z,bz,oz,_,_,_,hz,by omega,d1,d2,by have:1≤ns[z].kids.length:=Ec;omega,d3,d4,IA,fun w hb2=>?_⟩;refine hK _ w hb2 d5 aa ?_;have:=iC (i+1) hi;unfold jt at this;rw [IA] at this;split at this<;>simp only [ByteArray.size_append] at this<;>omega
 have akx:∃bk ok:Nat,(0<ns[m].kids.length→bk<W'.heap.size)∧∀i,i<ns[m].kids.length→ns[m].kp=some ⟨bk,ok,none⟩∧W'.cell? ⟨bk,ok+i,none⟩=some (.int .i64 (ns[m].kids.getD i 0)):=by
  by_cases h0:0<ns[m].kids.length
  ·obtain⟨b2,o2,h1,h2,h3⟩:=jC 0 h0;refine⟨b2,o2,fun _=>h2,fun i hi=>⟨h1, ?_⟩⟩;obtain⟨b3,o3,g1,g2,g3⟩:=jC i hi;rw [h1] at g1;cases g1;exact g3
  ·exact⟨0,0,fun h=>absurd h h0,fun i hi=>absurd hi aa⟩
 obtain⟨bk,ok,fu,iz⟩:=akx;have HM0:=hid hpm;have HZ:=hid iC;have HX:=hid hX;have HB:=hid hb;clear hpm iC;clear hK hR hX hN ht hv aT aJ hsz bK hb aX hf hq jC;generalize ns[m]=x at*;obtain⟨xk,xt,xp,xc,aK,aP⟩:=x;simp only at c0 c1 c2 c3 hk iY HX QS fu iz HM0 HZ;subst hk hp;obtain⟨wz,cV⟩:∃wz,wz=W'.alloc (.cells #[.int .i64 32,.string xt,.slice xp aK.length xc,.int .i64 aP] 56):=⟨_,rfl⟩;have ji:=hid (show Below W.heap.size W wz by rw [cV];exact bA HB.out _);have dh:=hid (show Below W'.heap.size W' wz by rw [cV];exact bA (Below.refl _ _) _);have iE:=(show wz.heap[W'.heap.size]?=some (.cells #[.int .i64 32,.string xt,.slice xp aK.length xc,.int .i64 aP] 56 (0,0)) by rw [cV];exact heap_alloc_new _ _);have vp:wz.cell? ⟨W'.heap.size,1,none⟩=some (.string xt):=yb;have wk:wz.cell? ⟨W'.heap.size,2,none⟩=some (.slice xp aK.length xc):=yb;have hXl:W'.heap.size<wz.heap.size:=(Array.getElem?_eq_some_iff.1 iE).1;have jb:=hid cV;have HXX:=hid hXl;clear cV iE;have mh:=hid (fun i (hi:i<aK.length)=>show xp=some ⟨bk,ok,none⟩∧bk<wz.heap.size∧wz.cell? ⟨bk,ok+i,none⟩=some (.int .i64 (aK.getD i 0)) from
  ⟨(iz i hi).1,Nat.lt_of_lt_of_le (fu aa) dh.out.size,(dh.out.cell (p:=⟨bk,_,none⟩) (fu aa)).trans (iz i hi).2⟩)
 have aht:b<wz.heap.size:=Nat.lt_of_lt_of_le hlt dh.out.size;have HM:Hid (∀i,i<aK.length→∃(z bz oz zl zc:Nat) (kz:Int),aK.getD i 0=(z:Int)∧(z:Int)<(ns.length:Int)∧wz.cell? ⟨b,o+z*4+1,none⟩=some (.string (eY ns (z:Int)))∧wz.cell? ⟨b,o+z*4+2,none⟩=some (.slice (some ⟨bz,oz,none⟩) zl zc)∧(0:Int)<(zl:Int)∧bz<wz.heap.size∧
   wz.cell? ⟨bz,oz,none⟩=some (.int .i64 kz)∧cO ns K (aK.getD i 0)=eY ns (z:Int)++(⟨#[58,32]⟩:ByteArray)++K kz∧(∀w,Below W.heap.size W w→Calls Tryz.prog 201 #[.slice (some ⟨b,o,none⟩) ns.length c,.int .i64 kz] w fun e w'=>e=.returned (.string (K kz))∧Below w.heap.size w w')):=hid fun i hi=>by
  obtain⟨z,bz,oz,zl,zc,kz,h1,h2,h3,h4,h5,h6,h7,h8,h9⟩:=HM0.out i hi;exact⟨z,bz,oz,zl,zc,kz,h1,h2,(dh.out.cell (p:=⟨b,_,none⟩) hlt).trans h3,(dh.out.cell (p:=⟨b,_,none⟩) hlt).trans h4,h5,Nat.lt_of_lt_of_le h6 dh.out.size,(dh.out.cell (p:=⟨bz,_,none⟩) h6).trans h7,h8,h9⟩
 clear iz fu HM0;generalize ns.length=L at*;go_enter Tryz.func201,Tryz.ntmps201;go_wp2;rw [←jb.out];clear jb;go_loopw [6,24] (fun sv iv wr=>∃(i:Nat) (g:fk),i≤aK.length∧sv=.string (jt ⟨#[44,32]⟩ (fun i=>cO ns K (aK.getD i 0)) i)∧iv=.int .i64 (i:Int)∧wr=grow wz g) (fun _ iv _=>aK.length - (intOf iv).toNat)
 case atStart=>obtain⟨g0,hg0⟩:=ay (Below.refl wz.heap.size wz);exact⟨0,g0,Nat.zero_le _,rfl,rfl,hg0⟩
 case round=>
  obtain⟨i,g,hi,rfl,rfl,rfl⟩:=hrel;by_cases di:i<aK.length
  ·obtain⟨rfl,ahs,hcell⟩:=mh.out i di;have h1:(i:Int)<(aK.length:Int):=aa;obtain⟨z,bz,oz,zl,zc,kz,hz,ZU,d1,d2,d3,d4,d5,IA,hCz⟩:=HM.out i di;rw [hz] at hcell;have hstep:jt ⟨#[44,32]⟩ (fun i=>cO ns K (aK.getD i 0)) (i+1)=(if 0<i then jt ⟨#[44,32]⟩ (fun i=>cO ns K (aK.getD i 0)) i++⟨#[44,32]⟩ else jt ⟨#[44,32]⟩ (fun i=>cO ns K (aK.getD i 0)) i)++cO ns K (aK.getD i 0):=rfl;have hz0:=HZ.out i hi;have hz1:=HZ.out (i+1) di;rw [hstep,IA] at hz1;rw [IA] at hstep;have TB:=hid hCz;clear IA hz hCz;have sR:=hid hstep;clear hstep mh HZ HM aj;generalize jt ⟨#[44,32]⟩ (fun i=>cO ns K (aK.getD i 0)) i=T at*;generalize K kz=tz at*;generalize eY ns (z:Int)=zt at*;have hz2:(⟨#[44,32]⟩:ByteArray).size=2:=rfl;have hz3:(⟨#[58,32]⟩:ByteArray).size=2:=rfl;by_cases nR:0<i
   ·have Jc:(0:Int)<(i:Int):=by omega
    skip
    rw [if_pos nR] at hz1;simp only [ByteArray.size_append,hz2,hz3] at hz1;have hzA:¬9223372036854775807<zt.size+2:=aa;have akA:¬9223372036854775807<zt.size+2+tz.size:=aa;have hzB:¬9223372036854775807<T.size+(zt.size+2+tz.size):=aa;have adw:¬9223372036854775807<T.size+2+(zt.size+2+tz.size):=aa;have hzI:(0:Int)<(zl:Int):=aa;have hzJ:0<zl:=aa;have hzK:¬zl=0:=aa;go_wp2;go_region_held3 (fun w'=>w'.cell? ⟨b,o+z*4+1,none⟩=some (.string zt)∧w'.cell? ⟨b,o+z*4+2,none⟩=some (.slice (some ⟨bz,oz,none⟩) zl zc)∧w'.cell? ⟨bz,oz,none⟩=some (.int .i64 kz)∧Below W.heap.size W w')
     ((go_split_ands;(try refine⟨?_, ?_, ?_, ?_⟩)<;>first|assumption|((repeat (first|exact ji.out|assumption|refine bN ?_ _|refine bD ?_|refine bG ?_ _|refine bI ?_ _ _|refine bA ?_ _));done)|(simp [go_sem];done)|(simp only [size_grow,World.size_alloc];omega)|(simp [go_sem, *];done)))
     (first|(go_at_call 201;go_split_ands;((with_reducible refine(TB.out _ eL).mono ?_));rintro e w' ⟨rfl,hb1⟩;obtain⟨G0,rfl⟩:=ay hb1;clear hb1))
    go_wp2
    all_goals
     refine⟨⟨i+1,_,by omega, ?_,by go_num,rfl⟩,by simp [intOf];omega⟩;rw [sR.out,if_pos nR]
   ·have Jc:(i:Int)≤0:=by omega
    skip
    rw [if_neg nR] at hz1;simp only [ByteArray.size_append,hz2,hz3] at hz1;have hzA:¬9223372036854775807<zt.size+2:=aa;have akA:¬9223372036854775807<zt.size+2+tz.size:=aa;have hzB:¬9223372036854775807<T.size+(zt.size+2+tz.size):=aa;have adw:¬9223372036854775807<T.size+2+(zt.size+2+tz.size):=aa;have hzI:(0:Int)<(zl:Int):=aa;have hzJ:0<zl:=aa;have hzK:¬zl=0:=aa;go_wp2;go_region_held3 (fun w'=>w'.cell? ⟨b,o+z*4+1,none⟩=some (.string zt)∧w'.cell? ⟨b,o+z*4+2,none⟩=some (.slice (some ⟨bz,oz,none⟩) zl zc)∧w'.cell? ⟨bz,oz,none⟩=some (.int .i64 kz)∧Below W.heap.size W w')
     ((go_split_ands;(try refine⟨?_, ?_, ?_, ?_⟩)<;>first|assumption|((repeat (first|exact ji.out|assumption|refine bN ?_ _|refine bD ?_|refine bG ?_ _|refine bI ?_ _ _|refine bA ?_ _));done)|(simp [go_sem];done)|(simp only [size_grow,World.size_alloc];omega)|(simp [go_sem, *];done)))
     (first|(go_at_call 201;go_split_ands;((with_reducible refine(TB.out _ eL).mono ?_));rintro e w' ⟨rfl,hb1⟩;obtain⟨G0,rfl⟩:=ay hb1;clear hb1))
    go_wp2
    all_goals
     refine⟨⟨i+1,_,by omega, ?_,by go_num,rfl⟩,by simp [intOf];omega⟩;rw [sR.out,if_neg nR]
  ·obtain rfl:i=aK.length:=by omega
   have hz0:=HZ.out aK.length (Nat.le_refl _);clear mh HZ HM;generalize hT:jt ⟨#[44,32]⟩ (fun i=>cO ns K (aK.getD i 0)) aK.length=T at*;have HT:=hid hT;clear hT aj;go_wp2;exact EC
 ):p:=h
theorem acN (h:p:=by
 have aX:=ht.cap ns[m] (List.getElem_mem hm);have hl:(m:Int)<(ns.length:Int):=aa;have hq:∀i,i<ns[m].kids.length→0≤ns[m].kids.getD i 0∧ns[m].kids.getD i 0<m:=fun i hi=>cE ht (List.getElem?_eq_getElem hm) hi
 have jC:∀i (hi:i<ns[m].kids.length),∃b o,ns[m].kp=some ⟨b,o,none⟩∧b<W'.heap.size∧W'.cell? ⟨b,o+i,none⟩=some (.int .i64 (ns[m].kids.getD i 0)):=fun i hi=>cC hN hb hm hi
 have QS:(ns[m].kids.length:Int)≤10000:=aa;have iY:ns[m].text.size≤4000:=aT.2
 first
 |(have:=U0;exact adt)
 |(have:=U1;exact adu)
 |(have:=U2;exact adv)
 ):p:=h
theorem adx (h:p:=by
 have hfn:∀f,ca.eval (.func f)=.func (.func f) #[] #[]:=fun _=>rfl
 have hcs:∀v,ca.eval (.const v)=v:=fun _=>rfl
 rcases kq with _|_|_|_|_|_|_|_|_|_|_|_|kq
 ·exact eW
 ·cases ho;have aW:=Am.lk 50 0 ag fun _=>rfl
  exact ZP
 ·cases ho;have aW:=Am.lk 51 1 ag fun _=>rfl
  exact dF
 ·exact fB
 ·exact eW
 ·cases ho;have aW:=Am.lk 54 4 ag fun _=>rfl
  exact rz
 ·cases ho;have aW:=Am.lk 55 5 ag fun _=>rfl
  exact dF
 ·cases ho;have aW:=Am.lk 56 6 ag fun _=>rfl
  exact Ex
 ·exact fC
 ·cases ho;have aW:=Am.lk 53 3 ag fun _=>rfl
  have mQ:=Am.lk 57 7 ag fun _=>rfl
  have Jg:=Am.lk 58 8 ag fun _=>rfl
  refine Am.bh rfl rfl (Am.cH (w':=w1) (f:=151) (args:=#[.slice (some ⟨b,o,none⟩) L c,.int .i64 ((z:Int)),.int .i64 ((d:Int))]) ?_ ((dm.out w1 Il).mono ?_))
  ·exact vB
  ·exact oW
 ·cases ho;have aW:=Am.lk 52 2 ag fun _=>rfl
  have mQ:=Am.lk 59 9 ag fun _=>rfl
  exact jc
 ·cases ho;have aW:=Am.lk 60 10 ag fun _=>rfl
  exact dF
 ·simp at ho
 ):p:=h
theorem ady (h:p:=by
 have sX:=(hb.cell (p:=⟨aq,_,none⟩) LK.out).trans G1.out
 first
 |(have:=Tw;exact acU)
 |(have:=Tx;exact acV)
 ):p:=h
theorem ag9 (h:p:=by
 have Wh:=trivial;exact V8
 ):p:=h
theorem adz (h:p:=by
 have eI:=hid (wm.out _ w2 h2 B4);have eD:=hid (cm.out.trans hk2);clear h2 hk2 HP cm wm hcell uH;go_wp2_with (go_at_call 148;refine(eI.out).mono ?_);exact BQ
 ):p:=h
theorem adA (h:p:=by
 have eI:=hid (wm.out _ w2 h2 B4);have eD:=hid (cm.out.trans hk2);clear h2 hk2 HP cm wm hcell uH;go_wp2_with (go_at_call 195;refine(eI.out).mono ?_);exact BQ
 ):p:=h
theorem adB (h:p:=by
 have eI:=hid (wm.out _ w2 (hk2.2 _ _ _ fT.out ai pE) h2 B4);have eD:=hid (cm.out.trans hk2);clear h2 hk2 HP cm wm hcell uH fT;go_wp2_with (go_at_call 235;refine(eI.out).mono ?_);exact BQ
 ):p:=h
theorem adC (h:p:=by
 have eI:=hid (wm.out _ w2 (hk2.2 _ _ _ fT.out ai pE) h2 B4);have eD:=hid (cm.out.trans hk2);clear h2 hk2 HP cm wm hcell uH fT;go_wp2_with (go_at_call 197;refine(eI.out).mono ?_);exact BQ
 ):p:=h
theorem UM (h:p:=by
 have Jc:(0:Int)<(i:Int):=aa;rw [if_pos nR] at hz1;simp only [ByteArray.size_append,hz2] at hz1;have HP:=hid (cW H1.out ⟨#[44,32]⟩ (by rw [ByteArray.size_append,hz2];omega));clear H1;go_wp2_with (go_at_call 44;refine(HP.out).mono ?_);rintro e w2 ⟨rfl,h2,hk2⟩
 first
 |(have:=UL;exact adz)
 |(have:=UO;exact adA)
 |(have:=UR;exact adB)
 |(have:=UT;exact adC)
 ):p:=h
theorem adD (h:p:=by
 clear hC hI hsz h;go_enter Tryz.func196,Tryz.ntmps196;go_wp2;go_loopw [10] (fun iv wr=>∃i:Nat,i≤ks.length∧iv=.int .i64 (i:Int)∧Hid (Wr W0 B (.slice p ns.length c) (u++jt ⟨#[44,32]⟩ g i) z wr∧Kp B w wr)) (fun iv _=>ks.length - (intOf iv).toNat)
 case atStart=>exact⟨0,Nat.zero_le _,rfl,hid ⟨by rw [show jt ⟨#[44,32]⟩ g 0=(⟨#[]⟩:ByteArray) from rfl,fJ];exact H.out,Kp.refl _ _⟩⟩
 case round=>
  obtain⟨i,hi,rfl,hst⟩:=hrel;by_cases di:i<ks.length
  ·have UW:=trivial;exact UU
  ·exact zU
 ):p:=h
theorem adE (h:p:=by
 clear hC hI hsz h;go_enter Tryz.func196,Tryz.ntmps196;go_wp2;go_loopw [10] (fun iv wr=>∃i:Nat,i≤ks.length∧iv=.int .i64 (i:Int)∧Hid (Wr W0 B (.slice p ns.length c) (u++jt ⟨#[44,32]⟩ g i) z wr∧Kp B w wr)) (fun iv _=>ks.length - (intOf iv).toNat)
 case atStart=>exact⟨0,Nat.zero_le _,rfl,hid ⟨by rw [show jt ⟨#[44,32]⟩ g 0=(⟨#[]⟩:ByteArray) from rfl,fJ];exact H.out,Kp.refl _ _⟩⟩
 case round=>
  obtain⟨i,hi,rfl,hst⟩:=hrel;by_cases di:i<ks.length
  ·have UX:=trivial;exact UU
  ·exact zU
 ):p:=h
theorem adF (h:p:=by
 have HBX:=hid sU;clear sU;clear hC hI hsz h;go_enter Tryz.func196,Tryz.ntmps196;go_wp2;go_loopw [10] (fun iv wr=>∃i:Nat,i≤ks.length∧iv=.int .i64 (i:Int)∧Hid (Wr W0 B (.slice p ns.length c) (u++jt ⟨#[44,32]⟩ g i) z wr∧Kp B w wr)) (fun iv _=>ks.length - (intOf iv).toNat)
 case atStart=>exact⟨0,Nat.zero_le _,rfl,hid ⟨by rw [show jt ⟨#[44,32]⟩ g 0=(⟨#[]⟩:ByteArray) from rfl,fJ];exact H.out,Kp.refl _ _⟩⟩
 case round=>
  obtain⟨i,hi,rfl,hst⟩:=hrel;by_cases di:i<ks.length
  ·have UY:=trivial;exact UU
  ·exact zU
 ):p:=h
theorem adG (h:p:=by
 have HBX:=hid sU;clear sU;clear hC hI hsz h;go_enter Tryz.func196,Tryz.ntmps196;go_wp2;go_loopw [10] (fun iv wr=>∃i:Nat,i≤ks.length∧iv=.int .i64 (i:Int)∧Hid (Wr W0 B (.slice p ns.length c) (u++jt ⟨#[44,32]⟩ g i) z wr∧Kp B w wr)) (fun iv _=>ks.length - (intOf iv).toNat)
 case atStart=>exact⟨0,Nat.zero_le _,rfl,hid ⟨by rw [show jt ⟨#[44,32]⟩ g 0=(⟨#[]⟩:ByteArray) from rfl,fJ];exact H.out,Kp.refl _ _⟩⟩
 case round=>
  obtain⟨i,hi,rfl,hst⟩:=hrel;by_cases di:i<ks.length
  ·have UZ:=trivial;exact UU
  ·exact zU
 ):p:=h
theorem Wi (h:p:=by
 have Lb:(ks.length:Int)≤10000:=aa;have HC:=hid hC;have HI:=hid hI;have HZ:=hid (fun i (hi:i≤ks.length)=>(show u.size+(jt ⟨#[44,32]⟩ g i).size≤1000000000 from Nat.le_trans (Nat.add_le_add_left (jo _ _ i _ hi) _) hsz));have H:=hid h
 first
 |(have:=Wj;exact adD)
 |(have:=Wk;exact adE)
 |(have:=Wl;exact adF)
 |(have:=Wm;exact adG)
 ):p:=h
theorem adH (h:p:=by
 by_cases gY:i<A.size
 ·exact YN
 ·have w1:¬(i:Int)<(A.size:Int):=by omega
  by_cases Av:i<A.size+more
  ·have w2:(i:Int)<(A.size:Int)+(more:Int):=by omega
   omega
  ·have Pf:=trivial;exact Z6
 ):p:=h
theorem adI (h:p:=by
 by_cases gY:i<A.size
 ·exact YN
 ·have w1:¬(i:Int)<(A.size:Int):=by omega
  by_cases Av:i<A.size+more
  ·have w2:(i:Int)<(A.size:Int)+(more:Int):=by omega
   have hpl:0<O.data.toList.length:=by rw [HOl.out];omega
   have hO0:0<O.size:=aa;have hw:jN A.data.toList O.data.toList B.data.toList more i=O[0]:=by
    unfold jN;rw [HAl.out,if_neg gY,if_pos Av,List.getD,List.getElem?_eq_getElem hpl];exact BK
   have hl:(O[0]).toNat∈letters:=D2.out _ (.inr (.inl (by
    have:O[0]=O.data.toList[0]:=gX;rw [this];exact List.getElem_mem hpl)))
   rw [hw] at hd;have hAm:(A.size:Int)+(more:Int)≤20010:=aa;obtain⟨cc,hcc⟩:∃cc,(O[0]).toNat=cc:=⟨_,rfl⟩;exact abP
  ·have Pg:=trivial;exact Z6
 ):p:=h
theorem ahx (h:p:=by
 have lq:i<ks.length:=by rw [Cz.out];exact hlt
 have hd:=IB A.data.toList O.data.toList B.data.toList more ks i lq;rw [hR.out] at hd;rcases Hk.out with hk|⟨b,o,rfl,hb,hcell⟩
 ·rw [List.map_eq_nil_iff] at hk;rw [hk] at lq;simp at lq
 have hc:=hcell i (by simpa using lq);rw [List.getElem_map] at hc;obtain⟨k0,yU⟩:=ahy.out ks[i] (List.getElem_mem lq);generalize ks[i]=kd at*;have hc2:w.cell? ⟨b,o+i,none⟩=some (.int .i64 (kd:Int)):=hc;have i0:(0:Int)≤(i:Int):=aa;have i1:(i:Int)<(m:Int):=aa;clear hcell hc hR
 first
 |(have:=Wn;exact adH)
 |(have:=Wo;exact adI)
 ):p:=h
theorem Wp (h:p:=by
 have dm:=hid (fun(u:ByteArray) (w:World) (hw:Wr W0 B (.slice p ns.length c) u (d:Int) w) (hs:u.size+(mq ns E ns[m] d).size≤1000000000)=>zj ht hN aJ hE m d ns[m].text u w hw bR hm hd h2k (mq ns E ns[m] d) (by unfold mq opT;rw [hk];rfl) hs);clear h2k;generalize mq ns E ns[m] d=s0 at*;have gy:=hid hX;have cw:=h.cell0;have lw:=h.size;have H:=hid h;clear hE hR hX hN ht hv aT aJ hsz bK aX hf hIn bZ h;generalize ns[m]=x at*;obtain⟨xk,xt,xp,xc,aK,aP⟩:=x;simp only at c0 c1 c2 c3 hk aj gy dm ⊢;subst hk hp;clear hm;generalize ns.length=L at*;generalize aK.length=xl at*;have bQ:Below w.heap.size w (w.alloc (.cells #[.int .i64 27,.string xt,.slice xp xl xc,.int .i64 aP] 56)):=bA (Below.refl _ _) _;have h0:=H.out.later bQ;have cI:=hid (aC (B:=B) bQ);have dW:=hid (heap_alloc_new w (.cells #[.int .i64 27,.string xt,.slice xp xl xc,.int .i64 aP] 56));exact NK
 ):p:=h
theorem Wq (h:p:=by
 have dm:=hid (fun(u:ByteArray) (w:World) (hw:Wr W0 B (.slice p ns.length c) u (d:Int) w) (hs:u.size+(mq ns E ns[m] d).size≤1000000000)=>zj ht hN aJ hE m d (⟨#[97,110,100]⟩:ByteArray) u w hw bR hm hd h2k (mq ns E ns[m] d) (by unfold mq opT;rw [hk];rfl) hs);clear h2k;generalize mq ns E ns[m] d=s0 at*;have gy:=hid hX;have cw:=h.cell0;have lw:=h.size;have H:=hid h;clear hE hR hX hN ht hv aT aJ hsz bK aX hf hIn bZ h;generalize ns[m]=x at*;obtain⟨xk,xt,xp,xc,aK,aP⟩:=x;simp only at c0 c1 c2 c3 hk aj gy dm ⊢;subst hk hp;clear hm;generalize ns.length=L at*;generalize aK.length=xl at*;have bQ:Below w.heap.size w (w.alloc (.cells #[.int .i64 29,.string xt,.slice xp xl xc,.int .i64 aP] 56)):=bA (Below.refl _ _) _;have h0:=H.out.later bQ;have cI:=hid (aC (B:=B) bQ);have dW:=hid (heap_alloc_new w (.cells #[.int .i64 29,.string xt,.slice xp xl xc,.int .i64 aP] 56));exact NK
 ):p:=h
theorem Ws (h:p:=by
 have dm:=hid (fun(u:ByteArray) (w:World) (hw:Wr W0 B (.slice p ns.length c) u (d:Int) w) (hs:u.size+(mq ns E ns[m] d).size≤1000000000)=>zj ht hN aJ hE m d (⟨#[111,114]⟩:ByteArray) u w hw bR hm hd h2k (mq ns E ns[m] d) (by unfold mq opT;rw [hk];rfl) hs);clear h2k;generalize mq ns E ns[m] d=s0 at*;have gy:=hid hX;have cw:=h.cell0;have lw:=h.size;have H:=hid h;clear hE hR hX hN ht hv aT aJ hsz bK aX hf hIn bZ h;generalize ns[m]=x at*;obtain⟨xk,xt,xp,xc,aK,aP⟩:=x;simp only at c0 c1 c2 c3 hk aj gy dm ⊢;subst hk hp;clear hm;generalize ns.length=L at*;generalize aK.length=xl at*;have bQ:Below w.heap.size w (w.alloc (.cells #[.int .i64 30,.string xt,.slice xp xl xc,.int .i64 aP] 56)):=bA (Below.refl _ _) _;have h0:=H.out.later bQ;have cI:=hid (aC (B:=B) bQ);have dW:=hid (heap_alloc_new w (.cells #[.int .i64 30,.string xt,.slice xp xl xc,.int .i64 aP] 56));exact NK
 ):p:=h
theorem OH (h:p:=by
 have PC:=trivial;exact qh
 ):p:=h
theorem Wt (h:p:=by
 by_cases hs:x.kind=18∨x.kind=19∨x.kind=20
 ·exact ag2
 ·have Ph:=trivial;exact Z7
 ):p:=h
theorem Wu (h:p:=by
 by_cases hs:x.kind=18∨x.kind=19∨x.kind=20
 ·exact ag2
 ·have Pj:=trivial;exact Z7
 ):p:=h
theorem XI (h:p:=by
 obtain⟨k,rfl,hk,hR⟩:=hrel;have DF:k<ns.length:=aa;obtain⟨b,o,rfl,hb,hx,hf,c0,c1,c2,c3⟩:=fq Ha.out DF;have hvn:=Hv.out k _ hk hx;generalize ns[k]=x at*;obtain⟨f,hkf,hr⟩:=hR.out;obtain⟨f,rfl⟩:∃f',f=f'+1:=⟨f - 1,by omega⟩;have hka:=aY hx;have jS:=PD hx;have k0:(0:Int)≤(k:Int):=aa;have k1:(k:Int)<(L:Int):=aa
 first
 |(have:=J6;exact Wt)
 |(have:=NG;exact Wu)
 ):p:=h
theorem Wv (h:p:=by
 have hr1:mS[k]?=some (m+1):=by rw [hrow2,List.getElem?_append_right aa];simp [qa]
 have Hkm:=hid Az;have qg:=hid hrow2;have ZO:=hid Ef;have EH:=hid qa;clear Az hrow2 Ef qa hR;by_cases hu:0≤u∧u<(k:Int)
 ·have Ww:=trivial;exact ahz
 ·exact Y3
 ):p:=h
theorem Wy (h:p:=by
 have hr1:mS[k]?=some m:=by rw [hrow2,List.getElem?_append_right aa];simp [qa]
 have Hkm:=hid Az;have qg:=hid hrow2;have ZO:=hid Ef;have EH:=hid qa;clear Az hrow2 Ef qa hR;by_cases hu:0≤u∧u<(k:Int)
 ·have Wz:=trivial;exact ahz
 ·exact Y3
 ):p:=h
theorem ZV (h:p:=by
 rcases Hx.out with ix|⟨bx,ox,hpx,sU,zh⟩
 ·subst ix;have:=Hq.out;simp at this;omega
 subst hpx;have hjk:j<kids.length:=mC;replace zh:=zh j hjk;have Az:=B5 ds kids j hjk;generalize kids[j]=u at*;have q0:(0:Int)≤(j:Int):=aa;have q1:(j:Int)<(q:Int):=aa;obtain⟨m,hrow2,Ks,nh,Ef⟩:=hR.out;have qa:=Ik.out
 first
 |(have:=OS;exact Wv)
 |(have:=OT;exact Wy)
 ):p:=h
theorem WA (h:p:=by
 obtain⟨yf,pW⟩:∃y:Nat→Value,∀t,ca.tmps.getD t undef=y t:=⟨_,fun _=>rfl⟩;simp only [pW] at dV;clear pW;subst dV;simp only [List.setIfInBounds_toArray,List.set_cons_succ,List.set_cons_zero];obtain⟨g1,rfl⟩:=ay hb;clear hb hd hs bV cQ h55 h57 h61;simp only [Am.jJ];go_wp2_with (first
  |(go_at_call 140;((with_reducible refine(rZ.out _ qj).mono ?_));rintro e w' ⟨rfl,hb⟩;obtain⟨g2,rfl⟩:=ay hb;clear hb)
  |(go_at_call 141;((with_reducible refine(Mt.out _ qj).mono ?_));rintro e w' ⟨rfl,hb⟩;obtain⟨g3,rfl⟩:=ay hb;clear hb)
  |(go_at_call 139;((with_reducible refine(dU _).mono ?_));rintro e w' ⟨rfl,hw⟩;rw [hw];clear hw w')
  |(go_at_call 142;((with_reducible refine(xG.out _ qj).mono ?_));rintro e w' ⟨rfl,hb⟩;obtain⟨g4,rfl⟩:=ay hb;clear hb)
  )
 go_end0;have hb9:Below (aO W U cy).heap.size (aO W U cy) (grow (((aO W U cy).alloc (.cells fa 135)).alloc (.cells #[.int .i64 k,.string text,.slice kp j aG,.int .i64 place] 56)) (((g1.app g2).app g3).app g4)):=cN;obtain⟨g9,h9⟩:=ay hb9;exact G6 (by rw [Yf.out];rfl) rfl g9 h9
 ):p:=h
theorem WB (h:p:=by
 generalize ca.tmps.getD 56 undef=x56 at dV;generalize ca.tmps.getD 58 undef=x58 at dV;generalize ca.tmps.getD 59 undef=x59 at dV;generalize ca.tmps.getD 60 undef=x60 at dV;subst dV;simp only [List.setIfInBounds_toArray,List.set_cons_succ,List.set_cons_zero];obtain⟨g1,rfl⟩:=ay hb;clear hb hd hs bV cQ h55 h57 h61;simp only [Am.jJ]
 first
 |(have:=SY;exact acR)
 |(have:=SZ;exact acS)
 |(have:=S0;exact acT)
 ):p:=h
theorem Yg (h:p:=by
 intro ca w1 hb hd hs bV cQ;have h55:ca.tmps.getD 55 undef=.slice (some ⟨b,o,none⟩) L c:=bV 0 _ 55 rfl rfl;have h57:ca.tmps.getD 57 undef=.slice kp j aG:=bV 2 _ 57 rfl rfl;have h61:ca.tmps.getD 61 undef=str fo:=bV 6 _ 61 rfl rfl;have dV:=Am.dy hd hs cQ;simp only [List.foldl_cons,List.foldl_nil,h55,h57,h61] at dV
 first
 |(have:=Mu;exact WA)
 |(have:=OQ;exact WB)
 ):p:=h
theorem WC (h:p:=by
 have hIn:bC W0 ns[m].kp ns[m].kids:=(hN.2.1 _ (List.getElem_mem hm)).2.2.2.2.2;have bZ:∀i,i<ns[m].kids.length→0≤ns[m].kids.getD i 0∧ns[m].kids.getD i 0<(m:Int):=fun i hi=>cE ht (List.getElem?_eq_getElem hm) hi
 first
 |(have:=WD;exact ab2)
 |(have:=WG;exact ab3)
 |(have:=WH;exact ab4)
 |(have:=WI;exact ab5)
 |(have:=WJ;exact ab6)
 |(have:=WL;exact ab7)
 |(have:=WM;exact ab8)
 |(have:=WN;exact ab9)
 |(have:=Q7;exact acd)
 |(have:=JA;exact TR)
 |(have:=JC;exact TT)
 |(have:=JE;exact TV)
 |(have:=JG;exact TW)
 |(have:=JI;exact TX)
 |(have:=PE;exact TY)
 |(have:=PF;exact T3)
 |(have:=PG;exact T5)
 |(have:=PI;exact T7)
 |(have:=PJ;exact T9)
 |(have:=PK;exact Ub)
 |(have:=PL;exact Ud)
 |(have:=PM;exact Uf)
 ):p:=h
theorem WO (h:p:=by
 first
 |(have:=Tm;exact ace)
 |(have:=Tn;exact acf)
 |(have:=Tp;exact acg)
 |(have:=Rb;exact ach)
 ):p:=h
theorem ZT (h:p:=by
 obtain⟨b,o,hp,hlt,c0,c1,c2,c3⟩:=bL hN h.below hm;have hl:(m:Int)<(ns.length:Int):=aa;have hv:=ht.all m ns[m] hm (List.getElem?_eq_getElem hm);have bK:=bM hv;rw [hk] at bK;have hf:=hv.fits;rw [hk] at hf;have aT:=ht.few.2 ns[m] (List.getElem_mem hm);have aX:=ht.cap ns[m] (List.getElem_mem hm)
 first
 |(have:=OL;exact WC)
 |(have:=OM;exact WO)
 ):p:=h
theorem WQ (h:p:=by
 have Hl:=hid hl;have hkey:keyOf Tryz.prog 9 (.string s)=some (.string s.data.toList):=keyOf_string_mk Tryz.underlying9 uB;have hname:cY s.data.toList=(!gV b.toNat && !decide (s.data.toList∈bH) && s.data.toList.all (fun b=>eP b.toNat)):=by
  rw [Dv];rfl
 clear gD hl h0 Dv;generalize sZ:b.toNat=c at*;clear sZ;have ke:=hid hname;clear hname;cases hd:gV c with
 |true=>
  have Hr:Hid (cY s.data.toList=false):=hid (by rw [ke.out,hd];rfl);clear ke;go_enter Tryz.func134,Tryz.ntmps134;go_wp2_with (go_at_call 175;((with_reducible refine(oC c fE _).mono ?_));rintro e w' ⟨rfl,hb⟩;obtain⟨g1,rfl⟩:=ay hb;clear hb);exact uX
 |false=>
  by_cases hm:s.data.toList∈bH
  ·have Hc:Hid (∀c2:Int,(Wf 18).atKey (.string s.data.toList) (iw 0)=.lit (.int .i64 c2)→c2=1):=hid fun c2 h=>by
    rw [XO,if_pos hm] at h;cases h;rfl
   have Hr:Hid (cY s.data.toList=false):=hid (by rw [ke.out,hd,decide_eq_true hm];rfl);clear ke hm;go_enter Tryz.func134,Tryz.ntmps134;go_wp2_with (first
  |(go_at_call 175;((with_reducible refine(oC c fE _).mono ?_));rintro e w' ⟨rfl,hb⟩;obtain⟨g1,rfl⟩:=ay hb;clear hb)
  |(go_at_call 176;refine(xD _ (Hl.out.later (bG (Below.refl _ _) _))).mono ?_;rintro e w' ⟨rfl,hb,hown⟩;obtain⟨g2,rfl⟩:=ay hb;clear hb;rw [size_grow,grow_grow] at hown;obtain⟨c2,hrun,hat,_⟩:=hown.lookup_int Dx Tryz.underlying119 Tryz.underlying3 (Fp _) hkey;have e2:=Hc.out _ hat;subst e2;clear hown hat))
   go_ret;exact⟨by rw [Hr.out];rfl,dX⟩
  ·have Hc:Hid (∀c2:Int,(Wf 18).atKey (.string s.data.toList) (iw 0)=.lit (.int .i64 c2)→c2=0):=hid fun c2 h=>by
    rw [XO,if_neg hm] at h;cases h;rfl
   have Hr:Hid (cY s.data.toList=s.data.toList.all (fun b=>eP b.toNat)):=hid (by rw [ke.out,hd,decide_eq_false hm];rfl);clear ke hm;go_enter Tryz.func134,Tryz.ntmps134;go_wp2_with (first
  |(go_at_call 175;((with_reducible refine(oC c fE _).mono ?_));rintro e w' ⟨rfl,hb⟩;obtain⟨g1,rfl⟩:=ay hb;clear hb)
  |(go_at_call 176;refine(xD _ (Hl.out.later (bG (Below.refl _ _) _))).mono ?_;rintro e w' ⟨rfl,hb,hown⟩;obtain⟨g2,rfl⟩:=ay hb;clear hb;rw [size_grow,grow_grow] at hown;obtain⟨c2,hrun,hat,_⟩:=hown.lookup_int Dx Tryz.underlying119 Tryz.underlying3 (Fp _) hkey;have e2:=Hc.out _ hat;subst e2;clear hown hat))
   go_loopw [19] (fun i wr=>∃(k:Nat) (g:fk),i=.int .i64 k∧wr=grow w g∧k≤s.size∧Hid ((s.data.toList.drop k).all (fun b=>eP b.toNat)=cY s.data.toList)) (fun i _=>s.size - (intOf i).toNat)
   case atStart=>exact⟨0,_,rfl,rfl,by omega,hid Hr.out.symm⟩
   case round=>
    obtain⟨k,g,rfl,rfl,hk,hR⟩:=hrel;clear Hc hrun Hr;by_cases hlt:k<s.size
    ·have Pp:=trivial;exact Z9
    ·exact Zr
 ):p:=h
theorem WR (h:p:=by
 have hname:cY s.data.toList=(jm b.toNat && !decide (s.data.toList∈bH) && s.data.toList.all (fun b=>eP b.toNat)):=by
  rw [Dv];exact IC b t
 have hw:∃x,x=decide (s.data.toList∈bH):=⟨_,rfl⟩;obtain⟨x,hx⟩:=hw;rw [←hx] at hname;have aad:Hid (∀w,Calls Tryz.prog 129 #[.string s] w fun e w'=>e=.returned (.bool x)∧Below w.heap.size w w'):=hid (by rw [hx];exact PN s);clear gD h0 Dv hx;generalize sZ:b.toNat=c at*;clear sZ;have ke:=hid hname;clear hname;cases hd:jm c with
 |false=>
  have Hr:Hid (cY s.data.toList=false):=hid (by rw [ke.out,hd];rfl);clear ke;go_enter Tryz.func79,Tryz.ntmps79;go_wp2_with (go_at_call 128;((with_reducible refine(oD c fE _).mono ?_));rintro e w' ⟨rfl,hb⟩;obtain⟨g1,rfl⟩:=ay hb;clear hb);exact uX
 |true=>
  cases x with
  |true=>
   have Hr:Hid (cY s.data.toList=false):=hid (by rw [ke.out,hd];rfl);clear ke;go_enter Tryz.func79,Tryz.ntmps79;go_wp2_with (first
    |(go_at_call 128;((with_reducible refine(oD c fE _).mono ?_));rintro e w' ⟨rfl,hb⟩;obtain⟨g1,rfl⟩:=ay hb;clear hb)
    |(go_at_call 129;((with_reducible refine(aad.out _).mono ?_));rintro e w' ⟨rfl,hb⟩;obtain⟨g1,rfl⟩:=ay hb;clear hb))
   exact uX
  |false=>
   have Hr:Hid (cY s.data.toList=s.data.toList.all (fun b=>eP b.toNat)):=hid (by rw [ke.out,hd];rfl);clear ke;go_enter Tryz.func79,Tryz.ntmps79;go_wp2_with (first
    |(go_at_call 128;((with_reducible refine(oD c fE _).mono ?_));rintro e w' ⟨rfl,hb⟩;obtain⟨g1,rfl⟩:=ay hb;clear hb)
    |(go_at_call 129;((with_reducible refine(aad.out _).mono ?_));rintro e w' ⟨rfl,hb⟩;obtain⟨g1,rfl⟩:=ay hb;clear hb))
   go_loopw [3] (fun i wr=>∃(k:Nat) (g:fk),i=.int .i64 k∧wr=grow w g∧k≤s.size∧Hid ((s.data.toList.drop k).all (fun b=>eP b.toNat)=cY s.data.toList)) (fun i _=>s.size - (intOf i).toNat)
   case atStart=>exact⟨0,_,rfl,rfl,by omega,hid Hr.out.symm⟩
   case round=>
    obtain⟨k,g,rfl,rfl,hk,hR⟩:=hrel;clear Hr;by_cases hlt:k<s.size
    ·have Pq:=trivial;exact Z9
    ·exact Zr
 ):p:=h
theorem XQ (h:p:=by
 obtain⟨b,t,Dv⟩:∃b t,s.data.toList=b::t:=by
  exact abY
 have he:(s.toList==[])=false:=by rw [ByteArray.toList_eq,Dv];rfl
 have h1:(1:Int)≤(s.size:Int):=aa;have dB:0<s.size:=aa;have hb0:(s[0]'dB).toNat=b.toNat:=by
  exact abW
 have fE:=b.toNat_lt;have Hln:=hid gD
 first
 |(have:=Kk;exact WQ)
 |(have:=PO;exact WR)
 ):p:=h
theorem adJ (h:p:=by
 have sX:=(hb.cell (p:=⟨aq,_,none⟩) LK.out).trans G1.out;have hfn:∀f,ca.eval (.func f)=.func (.func f) #[] #[]:=fun _=>rfl
 have hcs:∀v,ca.eval (.const v)=v:=fun _=>rfl
 rcases kq with _|_|_|_|_|_|_|_|_|_|_|_|_|_|_|_|_|kq
 ·exact fB
 ·exact eW
 ·cases ho;have aW:=Am.lk 64 1 ag fun _=>rfl
  exact rz
 ·cases ho;have aW:=Am.lk 65 2 ag fun _=>rfl
  exact dF
 ·cases ho;have aW:=Am.lk 66 3 ag fun _=>rfl
  exact Ex
 ·exact fC
 ·cases ho;have aW:=Am.lk 63 0 ag fun _=>rfl
  have mQ:=Am.lk 67 4 ag fun _=>rfl
  have Jg:=Am.lk 68 5 ag fun _=>rfl
  exact Zo
 ·cases ho;have aW:=Am.lk 69 6 ag fun _=>rfl
  exact dF
 ·exact fB
 ·exact eW
 ·cases ho;have aW:=Am.lk 72 9 ag fun _=>rfl
  exact rz
 ·cases ho;have aW:=Am.lk 73 10 ag fun _=>rfl
  exact dF
 ·cases ho;have aW:=Am.lk 74 11 ag fun _=>rfl
  exact Oi
 ·exact fC
 ·cases ho;have aW:=Am.lk 71 8 ag fun _=>rfl
  have mQ:=Am.lk 75 12 ag fun _=>rfl
  have Jg:=Am.lk 76 13 ag fun _=>rfl
  refine Am.bh rfl rfl (Am.cH (w':=w1) (f:=150) (args:=#[.slice (some ⟨b,o,none⟩) L c,.int .i64 k1,.int .i64 ((d:Int))]) ?_ ((kj.out w1 Il).mono ?_))
  ·exact vB
  ·exact oW
 ·cases ho;have aW:=Am.lk 70 7 ag fun _=>rfl
  have mQ:=Am.lk 77 14 ag fun _=>rfl
  exact jc
 ·cases ho;have aW:=Am.lk 78 15 ag fun _=>rfl
  exact dF
 ·simp at ho
 ):p:=h
theorem adK (h:p:=by
 have sX:=(hb.cell (p:=⟨aq,_,none⟩) LK.out).trans G1.out;have hwd:IntKind.i64.wrap ((d:Int)+1)=(d:Int)+1:=Am.nQ aa aa;have hfn:∀f,ca.eval (.func f)=.func (.func f) #[] #[]:=fun _=>rfl
 have hcs:∀v,ca.eval (.const v)=v:=fun _=>rfl
 rcases kq with _|_|_|_|_|_|_|_|_|_|_|_|_|_|_|_|_|_|_|_|_|_|_|kq
 ·exact fB
 ·exact eW
 ·cases ho;have aW:=Am.lk 139 1 ag fun _=>rfl
  exact rz
 ·cases ho;have aW:=Am.lk 140 2 ag fun _=>rfl
  exact dF
 ·cases ho;have aW:=Am.lk 141 3 ag fun _=>rfl
  exact Ex
 ·exact fC
 ·cases ho;have aW:=Am.lk 138 0 ag fun _=>rfl
  have mQ:=Am.lk 142 4 ag fun _=>rfl
  have Jg:=Am.lk 143 5 ag fun _=>rfl
  exact Zo
 ·cases ho;have aW:=Am.lk 144 6 ag fun _=>rfl
  exact dF
 ·cases ho;have aW:=Am.lk 145 7 ag fun _=>rfl
  exact dF
 ·exact fB
 ·exact eW
 ·cases ho;have aW:=Am.lk 148 10 ag fun _=>rfl
  exact rz
 ·cases ho;have aW:=Am.lk 149 11 ag fun _=>rfl
  exact dF
 ·cases ho;have aW:=Am.lk 150 12 ag fun _=>rfl
  exact Oi
 ·exact fC
 ·cases ho;have aW:=Am.lk 152 14 ag fun _=>rfl
  exact Oj
 ·cases ho;have aW:=Am.lk 147 9 ag fun _=>rfl
  have mQ:=Am.lk 151 13 ag fun _=>rfl
  have Jg:=Am.lk 153 15 ag fun _=>rfl
  refine Am.bh rfl rfl (Am.cH (w':=w1) (f:=49) (args:=#[.slice (some ⟨b,o,none⟩) L c,.int .i64 k1,.int .i64 ((d:Int)+1)]) ?_ ((kj.out w1 Il).mono ?_))
  ·exact vB
  ·exact oW
 ·cases ho;have aW:=Am.lk 146 8 ag fun _=>rfl
  have mQ:=Am.lk 154 16 ag fun _=>rfl
  exact jc
 ·exact fC
 ·cases ho;have aW:=Am.lk 156 18 ag fun _=>rfl
  exact Zq
 ·cases ho;have aW:=Am.lk 155 17 ag fun _=>rfl
  have mQ:=Am.lk 157 19 ag fun _=>rfl
  exact jc
 ·cases ho;have aW:=Am.lk 158 20 ag fun _=>rfl
  exact dF
 ·cases ho;have aW:=Am.lk 159 21 ag fun _=>rfl
  exact dF
 ·simp at ho
 ):p:=h
theorem adL (h:p:=by
 have sX:=(hb.cell (p:=⟨aq,_,none⟩) LK.out).trans G1.out;have uQ:=(hb.cell (p:=⟨aq,_,none⟩) LK.out).trans G2.out;have hwd:IntKind.i64.wrap ((d:Int)+1)=(d:Int)+1:=Am.nQ aa aa;have hfn:∀f,ca.eval (.func f)=.func (.func f) #[] #[]:=fun _=>rfl
 have hcs:∀v,ca.eval (.const v)=v:=fun _=>rfl
 rcases kq with _|_|_|_|_|_|_|_|_|_|_|_|_|_|kq
 ·exact zQ
 ·exact fC
 ·cases ho;have aW:=Am.lk 118 1 ag fun _=>rfl
  exact Zq
 ·cases ho;have aW:=Am.lk 119 2 ag fun _=>rfl
  exact dF
 ·exact fB
 ·exact eW
 ·cases ho;have aW:=Am.lk 122 5 ag fun _=>rfl
  exact rz
 ·cases ho;have aW:=Am.lk 123 6 ag fun _=>rfl
  exact dF
 ·cases ho;have aW:=Am.lk 124 7 ag fun _=>rfl
  refine Am.rv rfl rfl (hK _ _ (Below.refl _ _) rfl) ?_;generalize ca.eval=ev at*;simp [go_sem,execOp,hfn,hcs,aW,uQ]<;>first|omega|(intro hz;omega)
 ·exact fC
 ·cases ho;have aW:=Am.lk 126 9 ag fun _=>rfl
  exact Oj
 ·cases ho;have aW:=Am.lk 121 4 ag fun _=>rfl
  have mQ:=Am.lk 125 8 ag fun _=>rfl
  have Jg:=Am.lk 127 10 ag fun _=>rfl
  refine Am.bh rfl rfl (Am.cH (w':=w1) (f:=49) (args:=#[.slice (some ⟨b,o,none⟩) L c,.int .i64 ((z:Int)),.int .i64 ((d:Int)+1)]) ?_ ((HCZ.out w1 Il).mono ?_))
  ·exact vB
  ·exact oW
 ·cases ho;have aW:=Am.lk 120 3 ag fun _=>rfl
  have mQ:=Am.lk 128 11 ag fun _=>rfl
  exact jc
 ·cases ho;have aW:=Am.lk 117 0 ag fun _=>rfl
  have mQ:=Am.lk 129 12 ag fun _=>rfl
  exact jc
 ·simp at ho
 ):p:=h
theorem adM (h:p:=by
 first
 |(have:=Ur;exact adx)
 |(have:=U6;exact ady)
 ):p:=h
theorem V8 (h:p:=by
 intro kq o ca w1 ho hb ag K hK;have Il:=ji.out.trans (hb.mono ji.out.size);have vp:=(hb.cell (p:=⟨W'.heap.size,_,none⟩) LX.out).trans F1.out;have wk:=(hb.cell (p:=⟨W'.heap.size,_,none⟩) LX.out).trans F2.out;have zW:=(hb.cell (p:=⟨aq,_,none⟩) LK.out).trans G0.out
 first
 |(have:=V7;exact adJ)
 |(have:=V9;exact adK)
 |(have:=Wb;exact adL)
 |(have:=Wh;exact adM)
 ):p:=h
theorem adN (h:p:=by
 rw [hR,e,if_pos B0]
 ):p:=h
theorem adO (h:p:=by
 rw [hR,e,if_neg B0]
 ):p:=h
theorem ahh (h:p:=by
 have e:aQ ns E K S ns[m] d=(if aB ns (ns[m].kids.getD 2 0)=12 then(⟨#[105,102,32]⟩:ByteArray)++E (ns[m].kids.getD 0 0) d++(⟨#[32,116,104,101,110,10]⟩:ByteArray)++aL ns S (ns[m].kids.getD 1 0) (d+1) else(⟨#[105,102,32]⟩:ByteArray)++E (ns[m].kids.getD 0 0) d++(⟨#[32,116,104,101,110,10]⟩:ByteArray)++aL ns S (ns[m].kids.getD 1 0) (d+1)++(bP d++(⟨#[101,108,115,101,10]⟩:ByteArray)++aL ns S (ns[m].kids.getD 2 0) (d+1)))++bP d++(⟨#[101,110,100]⟩:ByteArray):=by rw [aQ,hk];rfl
 first
 |(have:=VZ;exact adN)
 |(have:=V2;exact adO)
 ):p:=h
theorem adP (h:p:=by
 clear rW hk gq vH oQ hAl hOl hBl adQ;go_enter Tryz.func64,Tryz.ntmps64;go_wp2_with (first
  |(go_at_call 112;((with_reducible refine(Hsh.out _).mono ?_));rintro e w' ⟨rfl,hb⟩;obtain⟨g0,rfl⟩:=ay hb;clear hb))
 go_loopw [10] (fun iv wr=>∃(i:Nat) (g:fk),iv=.int .i64 i∧wr=grow w g∧i≤m∧Hid (gI A.data.toList O.data.toList B.data.toList more (ks.drop i) i=gI A.data.toList O.data.toList B.data.toList more ks 0)) (fun iv _=>m - (intOf iv).toNat)
 case atStart=>exact⟨0,_,rfl,rfl,by omega,rfl⟩
 case round=>
  obtain⟨i,g,rfl,rfl,hi,hR⟩:=hrel;by_cases hlt:i<m
  ·have Wn:=trivial;exact ahx
  ·exact Zc
 ):p:=h
theorem adR (h:p:=by
 have hO2:O.toList.isEmpty=false:=by
  rw [ByteArray.toList_eq];cases e:O.data.toList with
  |nil=>rw [e] at hOl;simp at hOl;omega
  |cons x l=>rfl
 have hmn:0<more:=aa;clear rW hk gq vH oQ hAl hOl hBl adQ;go_enter Tryz.func64,Tryz.ntmps64;go_wp2_with (first
  |(go_at_call 112;((with_reducible refine(Hsh.out _).mono ?_));rintro e w' ⟨rfl,hb⟩;obtain⟨g0,rfl⟩:=ay hb;clear hb))
 go_loopw [10] (fun iv wr=>∃(i:Nat) (g:fk),iv=.int .i64 i∧wr=grow w g∧i≤m∧Hid (gI A.data.toList O.data.toList B.data.toList more (ks.drop i) i=gI A.data.toList O.data.toList B.data.toList more ks 0)) (fun iv _=>m - (intOf iv).toNat)
 case atStart=>exact⟨0,_,rfl,rfl,by omega,rfl⟩
 case round=>
  obtain⟨i,g,rfl,rfl,hi,hR⟩:=hrel;by_cases hlt:i<m
  ·have Wo:=trivial;exact ahx
  ·exact Zc
 ):p:=h
theorem ahB (h:p:=by
 have Hsh:=hid rW;have Hk:=hid hk;have Cz:=hid gq;have ahy:=hid vH;have D2:=hid oQ;have hm3:(more:Int)≤20000:=aa;have Ks:decide ((more:Int)<0)=false:=decide_eq_false aa;have hAl:A.data.toList.length=A.size:=ak;have hOl:O.data.toList.length=O.size:=ak;have hBl:B.data.toList.length=B.size:=ak;have HAl:=hid hAl;have HOl:=hid hOl;have HBl:=hid hBl;have adQ:(m:Int)=(A.size:Int)+(more:Int)+(B.size:Int):=aa;have akj:=hid adQ
 first
 |(have:=WT;exact adP)
 |(have:=WU;exact adR)
 ):p:=h
theorem adS (h:p:=by
 have cX0:w1.cell? ⟨W'.heap.size,0,none⟩=some (.int .i64 27):=jQ;have vp:w1.cell? ⟨W'.heap.size,1,none⟩=some (.string xt):=jQ;have wk:w1.cell? ⟨W'.heap.size,2,none⟩=some (.slice (some ⟨aq,aU,none⟩) xl xc):=jQ;have cX3:w1.cell? ⟨W'.heap.size,3,none⟩=some (.int .i64 aP):=jQ;have zW:=(hb.cell (p:=⟨aq,_,none⟩) bQ.out).trans cz0.out;have sX:=(hb.cell (p:=⟨aq,_,none⟩) bQ.out).trans cz1.out;have hfn:∀f,ca.eval (.func f)=.func (.func f) #[] #[]:=fun _=>rfl
 have hcs:∀v,ca.eval (.const v)=v:=fun _=>rfl
 rcases kq with _|_|_|_|_|_|_|_|_|_|_|_|_|_|_|_|_|_|_|_|_|_|_|_|_|kq
 ·exact fB
 ·exact eW
 ·exact Em
 ·exact Et
 ·exact Ek
 ·exact ry
 ·cases ho;have aW:=Am.lk 191 5 ag fun _=>rfl
  exact Zl
 ·exact fC
 ·exact NM
 ·exact Eu
 ·exact zQ
 ·exact NW
 ·exact Ep
 ·exact fB
 ·exact eW
 ·exact El
 ·exact Er
 ·exact Ei
 ·exact ry
 ·cases ho;have aW:=Am.lk 204 18 ag fun _=>rfl
  exact Zl
 ·exact Ej
 ·exact fC
 ·exact NL
 ·exact NV
 ·exact Es
 ·simp at ho
 ):p:=h
theorem adT (h:p:=by
 have cX0:w1.cell? ⟨W'.heap.size,0,none⟩=some (.int .i64 29):=jQ;have vp:w1.cell? ⟨W'.heap.size,1,none⟩=some (.string xt):=jQ;have wk:w1.cell? ⟨W'.heap.size,2,none⟩=some (.slice (some ⟨aq,aU,none⟩) xl xc):=jQ;have cX3:w1.cell? ⟨W'.heap.size,3,none⟩=some (.int .i64 aP):=jQ;have zW:=(hb.cell (p:=⟨aq,_,none⟩) bQ.out).trans cz0.out;have sX:=(hb.cell (p:=⟨aq,_,none⟩) bQ.out).trans cz1.out;have hfn:∀f,ca.eval (.func f)=.func (.func f) #[] #[]:=fun _=>rfl
 have hcs:∀v,ca.eval (.const v)=v:=fun _=>rfl
 rcases kq with _|_|_|_|_|_|_|_|_|_|_|_|_|_|_|_|_|_|_|_|_|_|_|_|_|kq
 ·exact fB
 ·exact eW
 ·exact Em
 ·exact Et
 ·exact Ek
 ·exact ry
 ·cases ho;have aW:=Am.lk 191 5 ag fun _=>rfl
  exact Zm
 ·exact fC
 ·exact NM
 ·exact Eu
 ·exact zQ
 ·exact NW
 ·exact Ep
 ·exact fB
 ·exact eW
 ·exact El
 ·exact Er
 ·exact Ei
 ·exact ry
 ·cases ho;have aW:=Am.lk 204 18 ag fun _=>rfl
  exact Zm
 ·exact Ej
 ·exact fC
 ·exact NL
 ·exact NV
 ·exact Es
 ·simp at ho
 ):p:=h
theorem adU (h:p:=by
 have cX0:w1.cell? ⟨W'.heap.size,0,none⟩=some (.int .i64 30):=jQ;have vp:w1.cell? ⟨W'.heap.size,1,none⟩=some (.string xt):=jQ;have wk:w1.cell? ⟨W'.heap.size,2,none⟩=some (.slice (some ⟨aq,aU,none⟩) xl xc):=jQ;have cX3:w1.cell? ⟨W'.heap.size,3,none⟩=some (.int .i64 aP):=jQ;have zW:=(hb.cell (p:=⟨aq,_,none⟩) bQ.out).trans cz0.out;have sX:=(hb.cell (p:=⟨aq,_,none⟩) bQ.out).trans cz1.out;have hfn:∀f,ca.eval (.func f)=.func (.func f) #[] #[]:=fun _=>rfl
 have hcs:∀v,ca.eval (.const v)=v:=fun _=>rfl
 rcases kq with _|_|_|_|_|_|_|_|_|_|_|_|_|_|_|_|_|_|_|_|_|_|_|_|_|kq
 ·exact fB
 ·exact eW
 ·exact Em
 ·exact Et
 ·exact Ek
 ·exact ry
 ·cases ho;have aW:=Am.lk 191 5 ag fun _=>rfl
  exact Zn
 ·exact fC
 ·exact NM
 ·exact Eu
 ·exact zQ
 ·exact NW
 ·exact Ep
 ·exact fB
 ·exact eW
 ·exact El
 ·exact Er
 ·exact Ei
 ·exact ry
 ·cases ho;have aW:=Am.lk 204 18 ag fun _=>rfl
  exact Zn
 ·exact Ej
 ·exact fC
 ·exact NL
 ·exact NV
 ·exact Es
 ·simp at ho
 ):p:=h
theorem adq (h:p:=by
 intro kq o ca w1 ho hb ag K hK;have ag6:IntKind.i64.wrap (q+1)=q+1:=Am.nQ aa aa;have Il:=ji.out.trans (hb.mono ji.out.size);have lD:=(hb.block _ (Array.getElem?_eq_some_iff.1 iE.out).1).trans iE.out
 first
 |(have:=Wc;exact adS)
 |(have:=Wd;exact adT)
 |(have:=We;exact adU)
 ):p:=h
theorem adV (h:p:=by
 have hX:R=⟨#[110,105,108]⟩:=eT;have aj:=hsz;rw [hX] at aj
 try simp only [ByteArray.size_append] at aj
 have gy:=hid hX;have cw:=h.cell0;have lw:=h.size;have H:=hid h;clear hE hR hX hN ht hv aT aJ hsz bK aX hf hIn bZ h;generalize ns[m]=x at*;obtain⟨xk,xt,xp,xc,aK,aP⟩:=x;simp only at c0 c1 c2 c3 hk aj gy ⊢;subst hk hp;clear hm;generalize ns.length=L at*;generalize aK.length=xl at*;have bQ:Below w.heap.size w (w.alloc (.cells #[.int .i64 13,.string xt,.slice xp xl xc,.int .i64 aP] 56)):=bA (Below.refl _ _) _;have h0:=H.out.later bQ;have cI:=hid (aC (B:=B) bQ);have dW:=hid (heap_alloc_new w (.cells #[.int .i64 13,.string xt,.slice xp xl xc,.int .i64 aP] 56));have dH:w.heap.size≠B:=aa;have hP:=cW h0 ⟨#[110,105,108]⟩ bg;rw [World.size_alloc] at hP;have cR:=hid hP;clear bQ h0 hP H;go_enter Tryz.func148,Tryz.ntmps148;go_wp2_with (go_at_call 44;with_reducible refine(cR.out).mono ?_);exact NQ
 ):p:=h
theorem adW (h:p:=by
 have hX:R=ns[m].text++(⟨#[40]⟩:ByteArray)++dL E ns[m].kids d++(⟨#[41]⟩:ByteArray):=eT;have aj:=hsz;rw [hX] at aj
 try simp only [ByteArray.size_append] at aj
 have hD0:∀(u:ByteArray) (w:World),Wr W0 B (.slice p ns.length c) u (d:Int) w→u.size+(dL E ns[m].kids d).size≤1000000000→Calls Tryz.prog 196 #[.pointer (some ⟨B,0,none⟩),.slice ns[m].kp ns[m].kids.length ns[m].aG,.func (.func 148) #[.pointer (some ⟨B,0,none⟩)] #[]] w (aI W0 B (.slice p ns.length c) (u++dL E ns[m].kids d) (d:Int) w):=fun u w hw hs=>by
  exact Zy
 have dm:=hid hD0;clear hD0;generalize dL E ns[m].kids d=s0 at*;have gy:=hid hX;have cw:=h.cell0;have lw:=h.size;have H:=hid h;clear hE hR hX hN ht hv aT aJ hsz bK aX hf hIn bZ h;generalize ns[m]=x at*;obtain⟨xk,xt,xp,xc,aK,aP⟩:=x;simp only at c0 c1 c2 c3 hk aj gy dm ⊢;subst hk hp;clear hm;generalize ns.length=L at*;generalize aK.length=xl at*;have bQ:Below w.heap.size w (w.alloc (.cells #[.int .i64 21,.string xt,.slice xp xl xc,.int .i64 aP] 56)):=bA (Below.refl _ _) _;have h0:=H.out.later bQ;have cI:=hid (aC (B:=B) bQ);have dW:=hid (heap_alloc_new w (.cells #[.int .i64 21,.string xt,.slice xp xl xc,.int .i64 aP] 56));have dH:w.heap.size≠B:=aa;have hP:=Mw h0 xt ⟨#[40]⟩ bg;rw [World.size_alloc] at hP;have cR:=hid hP;clear bQ h0 hP H;go_enter Tryz.func148,Tryz.ntmps148;go_wp2_with (go_at_call 44;with_reducible refine(cR.out).mono ?_);rintro e w1 ⟨rfl,h1,aR⟩;have cm:=hid (cI.out.trans aR);have dJ:=hid (aR.2 _ _ _ dW.out ai dH);have lF:w1.cell? ⟨w.heap.size,1,none⟩=some (.string xt):=cJ;have lG:w1.cell? ⟨w.heap.size,2,none⟩=some (.slice xp xl xc):=cJ;have lH:w.heap.size<w1.heap.size:=(Array.getElem?_eq_some_iff.1 dJ.out).1;have dG:=hid (dm.out _ w1 h1 bg);clear h1 aR cR cI dW;go_wp2_with (go_at_call 196;with_reducible refine(dG.out).mono ?_);rintro e w2 ⟨rfl,h2,hk2⟩;have eD:=hid (cm.out.trans hk2);have fW:=hid (hk2.2 _ _ _ dJ.out ai dH);have sW:w2.cell? ⟨w.heap.size,1,none⟩=some (.string xt):=cg;have tG:w2.cell? ⟨w.heap.size,2,none⟩=some (.slice xp xl xc):=cg;have tH:w.heap.size<w2.heap.size:=(Array.getElem?_eq_some_iff.1 fW.out).1;have eI:=hid (cW h2 ⟨#[41]⟩ bg);exact Zb
 ):p:=h
theorem adX (h:p:=by
 have hX:R=(⟨#[123]⟩:ByteArray)++dL E ns[m].kids d++(⟨#[125]⟩:ByteArray):=eT;have aj:=hsz;rw [hX] at aj
 try simp only [ByteArray.size_append] at aj
 have hD0:∀(u:ByteArray) (w:World),Wr W0 B (.slice p ns.length c) u (d:Int) w→u.size+(dL E ns[m].kids d).size≤1000000000→Calls Tryz.prog 196 #[.pointer (some ⟨B,0,none⟩),.slice ns[m].kp ns[m].kids.length ns[m].aG,.func (.func 148) #[.pointer (some ⟨B,0,none⟩)] #[]] w (aI W0 B (.slice p ns.length c) (u++dL E ns[m].kids d) (d:Int) w):=fun u w hw hs=>by
  exact Zy
 have dm:=hid hD0;clear hD0;generalize dL E ns[m].kids d=s0 at*;have gy:=hid hX;have cw:=h.cell0;have lw:=h.size;have H:=hid h;clear hE hR hX hN ht hv aT aJ hsz bK aX hf hIn bZ h;generalize ns[m]=x at*;obtain⟨xk,xt,xp,xc,aK,aP⟩:=x;simp only at c0 c1 c2 c3 hk aj gy dm ⊢;subst hk hp;clear hm;generalize ns.length=L at*;generalize aK.length=xl at*;have bQ:Below w.heap.size w (w.alloc (.cells #[.int .i64 24,.string xt,.slice xp xl xc,.int .i64 aP] 56)):=bA (Below.refl _ _) _;have h0:=H.out.later bQ;have cI:=hid (aC (B:=B) bQ);have dW:=hid (heap_alloc_new w (.cells #[.int .i64 24,.string xt,.slice xp xl xc,.int .i64 aP] 56));have dH:w.heap.size≠B:=aa;have hP:=cW h0 ⟨#[123]⟩ bg;rw [World.size_alloc] at hP;have cR:=hid hP;clear bQ h0 hP H;go_enter Tryz.func148,Tryz.ntmps148;go_wp2_with (go_at_call 44;with_reducible refine(cR.out).mono ?_);rintro e w1 ⟨rfl,h1,aR⟩;have cm:=hid (cI.out.trans aR);have dJ:=hid (aR.2 _ _ _ dW.out ai dH);have lF:w1.cell? ⟨w.heap.size,1,none⟩=some (.string xt):=cJ;have lG:w1.cell? ⟨w.heap.size,2,none⟩=some (.slice xp xl xc):=cJ;have lH:w.heap.size<w1.heap.size:=(Array.getElem?_eq_some_iff.1 dJ.out).1;have dG:=hid (dm.out _ w1 h1 bg);clear h1 aR cR cI dW;go_wp2_with (go_at_call 196;with_reducible refine(dG.out).mono ?_);rintro e w2 ⟨rfl,h2,hk2⟩;have eD:=hid (cm.out.trans hk2);have fW:=hid (hk2.2 _ _ _ dJ.out ai dH);have sW:w2.cell? ⟨w.heap.size,1,none⟩=some (.string xt):=cg;have tG:w2.cell? ⟨w.heap.size,2,none⟩=some (.slice xp xl xc):=cg;have tH:w.heap.size<w2.heap.size:=(Array.getElem?_eq_some_iff.1 fW.out).1;have eI:=hid (cW h2 ⟨#[125]⟩ bg);exact Zb
 ):p:=h
theorem adY (h:p:=by
 have hX:R=(⟨#[102,117,110,99,116,105,111,110]⟩:ByteArray)++fG ns K S ns[m] d:=eT;have aj:=hsz;rw [hX] at aj
 try simp only [ByteArray.size_append] at aj
 have dm:=hid (fun(u:ByteArray) (w:World) (hw:Wr W0 B (.slice p ns.length c) u (d:Int) w) (hs:u.size+(fG ns K S ns[m] d).size≤1000000000)=>F7 ht hN aJ hK hS m d u w hw bR hm hd hk hs);generalize fG ns K S ns[m] d=s0 at*;have gy:=hid hX;have cw:=h.cell0;have lw:=h.size;have H:=hid h;clear hK hS hE hR hX hN ht hv aT aJ hsz bK aX hf hIn bZ h;generalize ns[m]=x at*;obtain⟨xk,xt,xp,xc,aK,aP⟩:=x;simp only at c0 c1 c2 c3 hk aj gy dm ⊢;subst hk hp;clear hm;generalize ns.length=L at*;generalize aK.length=xl at*;have bQ:Below w.heap.size w (w.alloc (.cells #[.int .i64 22,.string xt,.slice xp xl xc,.int .i64 aP] 56)):=bA (Below.refl _ _) _;have h0:=H.out.later bQ;have cI:=hid (aC (B:=B) bQ);have dW:=hid (heap_alloc_new w (.cells #[.int .i64 22,.string xt,.slice xp xl xc,.int .i64 aP] 56));have dH:w.heap.size≠B:=aa;have hP:=cW h0 ⟨#[102,117,110,99,116,105,111,110]⟩ bg;rw [World.size_alloc] at hP;have cR:=hid hP;clear bQ h0 hP H;go_enter Tryz.func148,Tryz.ntmps148;go_wp2_with (go_at_call 44;with_reducible refine(cR.out).mono ?_);rintro e w1 ⟨rfl,h1,aR⟩;have cm:=hid (cI.out.trans aR);have dJ:=hid (aR.2 _ _ _ dW.out ai dH);have lF:w1.cell? ⟨w.heap.size,1,none⟩=some (.string xt):=cJ;have lG:w1.cell? ⟨w.heap.size,2,none⟩=some (.slice xp xl xc):=cJ;have lH:w.heap.size<w1.heap.size:=(Array.getElem?_eq_some_iff.1 dJ.out).1;have dG:=hid (dm.out _ w1 h1 bg);clear h1 aR cR cI dW;go_wp2_with (go_at_call 147;with_reducible refine(dG.out).mono ?_);exact NS
 ):p:=h
theorem adZ (h:p:=by
 have hX:R=iL ns[m].text:=eT;have aj:=hsz;rw [hX] at aj
 try simp only [ByteArray.size_append] at aj
 have hQ:=hid (fun w=>GA ns[m].text w aa);generalize iL ns[m].text=s0 at*;have gy:=hid hX;have cw:=h.cell0;have lw:=h.size;have H:=hid h;clear hE hR hX hN ht hv aT aJ hsz bK aX hf hIn bZ h;generalize ns[m]=x at*;obtain⟨xk,xt,xp,xc,aK,aP⟩:=x;simp only at c0 c1 c2 c3 hk aj gy hQ ⊢;subst hk hp;clear hm;generalize ns.length=L at*;generalize aK.length=xl at*;have bQ:Below w.heap.size w (w.alloc (.cells #[.int .i64 16,.string xt,.slice xp xl xc,.int .i64 aP] 56)):=bA (Below.refl _ _) _;have h0:=H.out.later bQ;have cI:=hid (aC (B:=B) bQ);have dW:=hid (heap_alloc_new w (.cells #[.int .i64 16,.string xt,.slice xp xl xc,.int .i64 aP] 56));have dH:w.heap.size≠B:=aa;have iq:=hQ.out (w.alloc (.cells #[.int .i64 16,.string xt,.slice xp xl xc,.int .i64 aP] 56));have HQ:=hid iq;have H0:=hid h0;clear bQ h0 H hQ iq;go_enter Tryz.func148,Tryz.ntmps148;go_wp2_with (go_at_call 54;with_reducible refine(HQ.out).mono ?_);rintro e w1 ⟨rfl,hb1⟩;have h1:=H0.out.later hb1;have cm:=hid (cI.out.trans (aC (B:=B) hb1));have dG:=hid (cW h1 s0 aa);clear hb1 cI h1 H0 HQ;go_wp2_with (go_at_call 44;with_reducible refine(dG.out).mono ?_);rintro e w2 ⟨rfl,h2,hk2⟩;have HF:=hid (And.intro h2 (cm.out.trans hk2));clear h2 hk2 dG cm;exact Ez
 ):p:=h
theorem ad0 (h:p:=by
 have hX:R=K5 ns E ns[m] d:=eT;have aj:=hsz;rw [hX] at aj
 try simp only [ByteArray.size_append] at aj
 have dm:=hid (fun(u:ByteArray) (w:World) (hw:Wr W0 B (.slice p ns.length c) u (d:Int) w) (hs:u.size+(K5 ns E ns[m] d).size≤1000000000)=>PS ht hN aJ hE m d u w hw bR hm hd hk hs);generalize K5 ns E ns[m] d=s0 at*;have gy:=hid hX;have cw:=h.cell0;have lw:=h.size;have H:=hid h;clear hE hR hX hN ht hv aT aJ hsz bK aX hf hIn bZ h;generalize ns[m]=x at*;obtain⟨xk,xt,xp,xc,aK,aP⟩:=x;simp only at c0 c1 c2 c3 hk aj gy dm ⊢;subst hk hp;clear hm;generalize ns.length=L at*;generalize aK.length=xl at*;have bQ:Below w.heap.size w (w.alloc (.cells #[.int .i64 28,.string xt,.slice xp xl xc,.int .i64 aP] 56)):=bA (Below.refl _ _) _;have h0:=H.out.later bQ;have cI:=hid (aC (B:=B) bQ);have dW:=hid (heap_alloc_new w (.cells #[.int .i64 28,.string xt,.slice xp xl xc,.int .i64 aP] 56));have dH:w.heap.size≠B:=aa;have hP:=dm.out _ _ h0 bg;have cR:=hid hP;clear bQ h0 hP H;go_enter Tryz.func148,Tryz.ntmps148;go_wp2_with (go_at_call 199;with_reducible refine(cR.out).mono ?_);exact NQ
 ):p:=h
theorem ad1 (h:p:=by
 have hX:R=K5 ns E ns[m] d:=eT;have iY:ns[m].text.size≤4000:=aT.2;unfold K5 at hX;obtain⟨z,hz⟩:∃z:Nat,ns[m].kids.getD 0 0=z:=⟨(ns[m].kids.getD 0 0).toNat,by omega⟩;rw [hz] at eA dQ hX;have hzl:z<ns.length:=aa;have ZU:(z:Int)<(ns.length:Int):=aa;obtain⟨b',o',xX,EG,d0,d1,d2,d3⟩:=bL hN hb hzl;rw [hp] at xX;cases xX;have hD:zT ns ns[m]=((ns[m].text.toList==[45]) && (decide (ns[z].kind=28) && (ns[z].text.toList==[45]))):=by
  exact Oz
 rw [hD] at hX;have hs0:(bB ns E (z:Int) 7 d).size≤1000000000:=by
  rw [hX] at hsz;split at hsz
  ·rw [ByteArray.size_append] at hsz;omega
  ·split at hsz<;>rw [ByteArray.size_append] at hsz<;>omega
 have dm:=hid (fun w hb2=>gN ht hN aJ hE (z:Int) 7 d w hb2 eA.1 aa aa aa hs0);generalize bB ns E (z:Int) 7 d=s0 at*;clear hD hz;generalize ns[z]=y at*;obtain⟨yk,yt,yp,yc,yks,ypl⟩:=y;simp only at d0 d1 d2 d3 hX;generalize yks.length=yl at*;have HX:=hid hX;have HB:=hid hb;clear hE hR hX hN ht hv aT aJ hsz eA bK hb aX hzl EG;generalize ns[m]=x at*;obtain⟨xk,xt,xp,xc,aK,aP⟩:=x;simp only at c0 c1 c2 c3 hk iY HX bu bf dY;subst hk hp;subst bf;rw [Nat.add_zero] at dQ;generalize ns.length=L at*;generalize aK.length=xl at*;cases e1:(xt.toList==[110,111,116]) with
 |true=>
  have kK:=hid (show R=(⟨#[110,111,116,32]⟩:ByteArray)++s0 by rw [HX.out];simp [e1]);clear HX;go_enter Tryz.func150,Tryz.ntmps150;go_wp2_with (first|(go_at_call 204;((with_reducible refine(dm.out _ rV).mono ?_));rintro e w' ⟨rfl,hb1⟩;obtain⟨G0,rfl⟩:=ay hb1;clear hb1));go_wp2
  all_goals (go_ret;exact⟨by rw [kK.out];rfl,fH⟩)
 |false=>
  cases e2:(xt.toList==[45]) with
  |false=>
   have kK:=hid (show R=xt++s0 by rw [HX.out];simp [e1,e2]);clear HX;have hBx:¬9223372036854775807<xt.size+s0.size:=aa;go_enter Tryz.func150,Tryz.ntmps150;go_wp2;go_region_held3 (fun w'=>w'.cell? ⟨W'.heap.size,1,none⟩=some (.string xt)∧w'.cell? ⟨W'.heap.size,2,none⟩=some (.slice (some ⟨aq,aU,none⟩) xl xc)∧w'.cell? ⟨aq,aU,none⟩=some (.int .i64 (z:Int))∧Below W.heap.size W w'∧W'.heap.size<w'.heap.size)
    ((go_split_ands;(try refine⟨?_, ?_, ?_, ?_, ?_⟩)<;>first|assumption|(refine(dP _ _ _ _ aa).trans ?_;assumption)|((repeat (first|exact HB.out|assumption|refine bN ?_ _|refine bD ?_|refine bG ?_ _|refine bI ?_ _ _|refine bA ?_ _));done)|(simp [go_sem];done)|(simp only [size_grow,World.size_alloc];omega)|(simp [go_sem, *];done)))
    (first|(go_at_call 204;go_split_ands;((with_reducible refine(dm.out _ eL).mono ?_));rintro e w' ⟨rfl,hb1⟩;obtain⟨G0,rfl⟩:=ay hb1;clear hb1))
   go_wp2
   all_goals (go_ret;exact⟨by rw [kK.out];rfl,fH⟩)
  |true=>
   by_cases hy:yk=28
   ·subst hy;cases e4:(yt.toList==[45]) with
    |true=>
     have kK:=hid (show R=(⟨#[45,32]⟩:ByteArray)++s0 by rw [HX.out];simp [e1,e2,e4]);clear HX;go_enter Tryz.func150,Tryz.ntmps150;go_wp2_with (first|(go_at_call 204;((with_reducible refine(dm.out _ rV).mono ?_));rintro e w' ⟨rfl,hb1⟩;obtain⟨G0,rfl⟩:=ay hb1;clear hb1));go_wp2
     all_goals (go_ret;exact⟨by rw [kK.out];rfl,fH⟩)
    |false=>
     have kK:=hid (show R=xt++s0 by rw [HX.out];simp [e1,e2,e4]);clear HX;have hBx:¬9223372036854775807<xt.size+s0.size:=aa;go_enter Tryz.func150,Tryz.ntmps150;go_wp2;go_region_held3 (fun w'=>w'.cell? ⟨W'.heap.size,1,none⟩=some (.string xt)∧w'.cell? ⟨W'.heap.size,2,none⟩=some (.slice (some ⟨aq,aU,none⟩) xl xc)∧w'.cell? ⟨aq,aU,none⟩=some (.int .i64 (z:Int))∧Below W.heap.size W w'∧W'.heap.size<w'.heap.size)
      ((go_split_ands;(try refine⟨?_, ?_, ?_, ?_, ?_⟩)<;>first|assumption|(refine(dP _ _ _ _ aa).trans ?_;assumption)|((repeat (first|exact HB.out|assumption|refine bN ?_ _|refine bD ?_|refine bG ?_ _|refine bI ?_ _ _|refine bA ?_ _));done)|(simp [go_sem];done)|(simp only [size_grow,World.size_alloc];omega)|(simp [go_sem, *];done)))
      (first|(go_at_call 204;go_split_ands;((with_reducible refine(dm.out _ eL).mono ?_));rintro e w' ⟨rfl,hb1⟩;obtain⟨G0,rfl⟩:=ay hb1;clear hb1))
     go_wp2
     all_goals (go_ret;exact⟨by rw [kK.out];rfl,fH⟩)
   ·have e3:(yk==28)=false:=by simp [hy]
    have kK:=hid (show R=xt++s0 by rw [HX.out];simp [e1,e2,hy]);clear HX;have hBx:¬9223372036854775807<xt.size+s0.size:=aa;go_enter Tryz.func150,Tryz.ntmps150;go_wp2;go_region_held3 (fun w'=>w'.cell? ⟨W'.heap.size,1,none⟩=some (.string xt)∧w'.cell? ⟨W'.heap.size,2,none⟩=some (.slice (some ⟨aq,aU,none⟩) xl xc)∧w'.cell? ⟨aq,aU,none⟩=some (.int .i64 (z:Int))∧Below W.heap.size W w'∧W'.heap.size<w'.heap.size)
     ((go_split_ands;(try refine⟨?_, ?_, ?_, ?_, ?_⟩)<;>first|assumption|(refine(dP _ _ _ _ aa).trans ?_;assumption)|((repeat (first|exact HB.out|assumption|refine bN ?_ _|refine bD ?_|refine bG ?_ _|refine bI ?_ _ _|refine bA ?_ _));done)|(simp [go_sem];done)|(simp only [size_grow,World.size_alloc];omega)|(simp [go_sem, *];done)))
     (first|(go_at_call 204;go_split_ands;((with_reducible refine(dm.out _ eL).mono ?_));rintro e w' ⟨rfl,hb1⟩;obtain⟨G0,rfl⟩:=ay hb1;clear hb1))
    go_wp2
    all_goals (go_ret;exact⟨by rw [kK.out];rfl,fH⟩)
 ):p:=h
theorem ad2 (h:p:=by
 have hX:R=dR ns E (ns[m].kids.getD 0 0) d++(⟨#[40]⟩:ByteArray)++dL E (ns[m].kids.drop 1) d++(⟨#[41]⟩:ByteArray):=eT;have iY:ns[m].text.size≤4000:=aT.2;have aj:=hsz;rw [hX] at aj
 try simp only [ByteArray.size_append] at aj
 have dm:=hid (fun w hb2=>uG ht hN aJ hE (ns[m].kids.getD 0 0) d w hb2 eA.1 aa aa aa);have bZ:∀k∈ns[m].kids,0≤k∧k<(N:Int)∧(d:Int)+k≤2000:=fun k hk2=>by have:=hv.kids k hk2;exact⟨this.1,by omega,by omega⟩
 have hIn:bC W ns[m].kp ns[m].kids:=(hN.2.1 _ (List.getElem_mem hm)).2.2.2.2.2;have hI1:bC W (some ⟨aq,aU+1,none⟩) (ns[m].kids.drop 1):=by
  exact Zp
 have H7:(ns[m].kids.drop 1).length=ns[m].kids.length - 1:=ak;have kj:=hid (fun(cc:Nat) (w:World) hb2=>pM aJ hE (ns[m].kids.drop 1) (some ⟨aq,aU+1,none⟩) cc d w hb2 hI1 (fun k hk=>bZ k (List.mem_of_mem_drop hk)) (by rw [H7];omega) aa);rw [H7] at kj;have ahE:ns[m].kids.length=1→∀(a:Option Addr) (cc:Nat) (w:World),Below W.heap.size W w→Calls Tryz.prog 203 #[.slice p ns.length c,.slice a 0 cc,.int .i64 (d:Int)] w fun e w'=>e=.returned (.string (dL E (ns[m].kids.drop 1) d))∧Below w.heap.size w w':=by
  intro h a cc w hb2;have e:ns[m].kids.drop 1=[]:=List.drop_eq_nil_of_le aa;rw [e];exact pM aJ hE [] a cc d w hb2 (.inl rfl) ak ak (by show(0:Nat)≤_;omega)
 have ahF:=hid ahE;clear ahE;generalize dR ns E (ns[m].kids.getD 0 0) d=s0 at*;generalize dL E (ns[m].kids.drop 1) d=s1 at*;generalize ns[m].kids.getD 0 0=k0 at*;have hlc:(ns[m].kids.length:Int)≤(ns[m].aG:Int):=aa;have hl1:(1:Int)≤(ns[m].kids.length:Int):=aa;clear bZ hIn hI1 H7;have HX:=hid hX;have HB:=hid hb;clear hE hR hX hN ht hv aT aJ hsz eA bK hb aX;generalize ns[m]=x at*;obtain⟨xk,xt,xp,xc,aK,aP⟩:=x;simp only at c0 c1 c2 c3 hk iY HX hlc hl1 kj ahF bu bf dY;subst hk hp;subst bf;rw [Nat.add_zero] at dQ;generalize ns.length=L at*;generalize aK.length=xl at*;by_cases hx1:xc=1
 ·obtain rfl:xl=1:=by omega
  subst hx1;have HC2:=hid (ahF.out rfl);have G4:s0.size+1+s1.size+1≤1000000000:=aj;have hB2:¬9223372036854775807<s0.size+1:=aa;have hB3:¬9223372036854775807<s0.size+1+s1.size:=aa;have hB4:¬9223372036854775807<s0.size+1+s1.size+1:=aa;clear G4;go_enter Tryz.func150,Tryz.ntmps150;go_wp2;go_region_held3 (fun w'=>w'.cell? ⟨W'.heap.size,2,none⟩=some (.slice (some ⟨aq,aU,none⟩) 1 1)∧w'.cell? ⟨aq,aU,none⟩=some (.int .i64 k0)∧Below W.heap.size W w'∧W'.heap.size<w'.heap.size)
   ((go_split_ands;(try refine⟨?_, ?_, ?_, ?_⟩)<;>first|assumption|(refine(dP _ _ _ _ aa).trans ?_;assumption)|((repeat (first|exact HB.out|assumption|refine bN ?_ _|refine bD ?_|refine bG ?_ _|refine bI ?_ _ _|refine bA ?_ _));done)|(simp [go_sem];done)|(simp only [size_grow,World.size_alloc];omega)|(simp [go_sem, *];done)))
   (first|(go_at_call 202;go_split_ands;((with_reducible refine(dm.out _ eL).mono ?_));rintro e w' ⟨rfl,hb1⟩;obtain⟨G0,rfl⟩:=ay hb1;clear hb1)|(go_at_call 203;go_split_ands;((with_reducible refine((HC2.out _ _ _ eL)).mono ?_));rintro e w' ⟨rfl,hb1⟩;obtain⟨G1,rfl⟩:=ay hb1;clear hb1))
  go_wp2
  all_goals (go_ret;exact⟨by rw [HX.out];rfl,fH⟩)
 ·have hx2:(1:Int)<(xc:Int):=by omega
  have G4:s0.size+1+s1.size+1≤1000000000:=aj;have hB2:¬9223372036854775807<s0.size+1:=aa;have hB3:¬9223372036854775807<s0.size+1+s1.size:=aa;have hB4:¬9223372036854775807<s0.size+1+s1.size+1:=aa;clear G4;go_enter Tryz.func150,Tryz.ntmps150;go_wp2;go_region_held3 (fun w'=>w'.cell? ⟨W'.heap.size,2,none⟩=some (.slice (some ⟨aq,aU,none⟩) xl xc)∧w'.cell? ⟨aq,aU,none⟩=some (.int .i64 k0)∧Below W.heap.size W w'∧W'.heap.size<w'.heap.size)
   ((go_split_ands;(try refine⟨?_, ?_, ?_, ?_⟩)<;>first|assumption|(refine(dP _ _ _ _ aa).trans ?_;assumption)|((repeat (first|exact HB.out|assumption|refine bN ?_ _|refine bD ?_|refine bG ?_ _|refine bI ?_ _ _|refine bA ?_ _));done)|(simp [go_sem];done)|(simp only [size_grow,World.size_alloc];omega)|(simp [go_sem, *];done)))
   (first|(go_at_call 202;go_split_ands;((with_reducible refine(dm.out _ eL).mono ?_));rintro e w' ⟨rfl,hb1⟩;obtain⟨G0,rfl⟩:=ay hb1;clear hb1)|(go_at_call 203;go_split_ands;((with_reducible refine((kj.out _ _ eL)).mono ?_));rintro e w' ⟨rfl,hb1⟩;obtain⟨G1,rfl⟩:=ay hb1;clear hb1))
  go_wp2
  all_goals (go_ret;exact⟨by rw [HX.out];rfl,fH⟩)
 ):p:=h
theorem ad3 (h:p:=by
 have hX:R=dR ns E (ns[m].kids.getD 0 0) d++(⟨#[91]⟩:ByteArray)++E (ns[m].kids.getD 1 0) d++(⟨#[93]⟩:ByteArray):=eT;have aj:=hsz;rw [hX] at aj
 try simp only [ByteArray.size_append] at aj
 have hx0:oh (aB ns (ns[m].kids.getD 0 0)).toNat=true:=jR (c:=101) (f:=[101]) hf ai ai ai bu;have dm:=hid (fun(u:ByteArray) (w:World) (hw:Wr W0 B (.slice p ns.length c) u (d:Int) w) (hs:u.size+(dR ns E (ns[m].kids.getD 0 0) d).size≤1000000000)=>yy ht hN aJ hE (ns[m].kids.getD 0 0) d u w hw eA.1 aa aa hx0 hs);clear hx0;have kj:=hid (fun(u:ByteArray) (w:World) (hw:Wr W0 B (.slice p ns.length c) u (d:Int) w) (hs:u.size+(E (ns[m].kids.getD 1 0) d).size≤1000000000)=>hE (ns[m].kids.getD 1 0) d u w hw iq.1 aa aa hs);generalize dR ns E (ns[m].kids.getD 0 0) d=s0 at*;generalize E (ns[m].kids.getD 1 0) d=s1 at*;generalize ns[m].kids.getD 0 0=k0 at*;generalize ns[m].kids.getD 1 0=k1 at*;have gy:=hid hX;have cw:=h.cell0;have lw:=h.size;have H:=hid h;rw [bf] at fA;cases fA;have LK:=hid (And.intro aS True.intro);have rB:aq<w.heap.size:=Nat.lt_of_lt_of_le aS H.out.below.size;have dI:=(H.out.below.cell (p:=⟨aq,_,none⟩) aS).trans dQ;have pN:=(H.out.below.cell (p:=⟨aq,_,none⟩) aS).trans oM;rw [Nat.add_zero] at dI;rw [Nat.add_zero] at dQ;have ij:=hid dQ;have nX:=hid oM;clear hE hR hX hN ht hv aT aJ hsz bK aX hf hIn bZ h eA dQ iq oM aS Bl;generalize ns[m]=x at*;obtain⟨xk,xt,xp,xc,aK,aP⟩:=x;simp only at c0 c1 c2 c3 hk aj gy bu dY gC mA bf ⊢;subst hk hp;clear hm;subst bf;generalize ns.length=L at*;generalize aK.length=xl at*;have bQ:Below w.heap.size w (w.alloc (.cells #[.int .i64 19,.string xt,.slice (some ⟨aq,aU,none⟩) xl xc,.int .i64 aP] 56)):=bA (Below.refl _ _) _;have h0:=H.out.later bQ;have cI:=hid (aC (B:=B) bQ);have dW:=hid (heap_alloc_new w (.cells #[.int .i64 19,.string xt,.slice (some ⟨aq,aU,none⟩) xl xc,.int .i64 aP] 56));have dH:w.heap.size≠B:=aa;have hP:=dm.out _ _ h0 bg;have cR:=hid hP;clear bQ h0 hP H;go_enter Tryz.func148,Tryz.ntmps148;go_wp2_with (go_at_call 198;with_reducible refine(cR.out).mono ?_);rintro e w1 ⟨rfl,h1,aR⟩;have cm:=hid (cI.out.trans aR);have dJ:=hid (aR.2 _ _ _ dW.out ai dH);have lF:w1.cell? ⟨w.heap.size,1,none⟩=some (.string xt):=cJ;have lG:w1.cell? ⟨w.heap.size,2,none⟩=some (.slice (some ⟨aq,aU,none⟩) xl xc):=cJ;have lH:w.heap.size<w1.heap.size:=(Array.getElem?_eq_some_iff.1 dJ.out).1;have je:=(h1.below.cell (p:=⟨aq,_,none⟩) LK.out.1).trans ij.out;have vF:=(h1.below.cell (p:=⟨aq,_,none⟩) LK.out.1).trans nX.out;have rC:aq<w1.heap.size:=Nat.lt_of_lt_of_le LK.out.1 h1.below.size;have dG:=hid (cW h1 ⟨#[91]⟩ bg);clear h1 aR cR cI dW rB dI pN;go_wp2_with (go_at_call 44;with_reducible refine(dG.out).mono ?_);rintro e w2 ⟨rfl,h2,hk2⟩;have eD:=hid (cm.out.trans hk2);have fW:=hid (hk2.2 _ _ _ dJ.out ai dH);have sW:w2.cell? ⟨w.heap.size,1,none⟩=some (.string xt):=cg;have tG:w2.cell? ⟨w.heap.size,2,none⟩=some (.slice (some ⟨aq,aU,none⟩) xl xc):=cg;have tH:w.heap.size<w2.heap.size:=(Array.getElem?_eq_some_iff.1 fW.out).1;have lC:=(h2.below.cell (p:=⟨aq,_,none⟩) LK.out.1).trans ij.out;have vG:=(h2.below.cell (p:=⟨aq,_,none⟩) LK.out.1).trans nX.out;have wq:aq<w2.heap.size:=Nat.lt_of_lt_of_le LK.out.1 h2.below.size;have eI:=hid (kj.out _ w2 h2 bg);clear h2 hk2 dG cm dJ lF lG lH je vF rC;go_wp2_with (go_at_call 148;with_reducible refine(eI.out).mono ?_);rintro e w3 ⟨rfl,h3,hk3⟩;have lJ:=hid (eD.out.trans hk3);have lI:=hid (hk3.2 _ _ _ fW.out ai dH);have Ih:w3.cell? ⟨w.heap.size,1,none⟩=some (.string xt):=ey;have Ii:w3.cell? ⟨w.heap.size,2,none⟩=some (.slice (some ⟨aq,aU,none⟩) xl xc):=ey;have Jf:w.heap.size<w3.heap.size:=(Array.getElem?_eq_some_iff.1 lI.out).1;have vu:=(h3.below.cell (p:=⟨aq,_,none⟩) LK.out.1).trans ij.out;have zY:=(h3.below.cell (p:=⟨aq,_,none⟩) LK.out.1).trans nX.out;have FM:aq<w3.heap.size:=Nat.lt_of_lt_of_le LK.out.1 h3.below.size;have vv:=hid (cW h3 ⟨#[93]⟩ bg);clear h3 hk3 eI eD fW sW tG tH lC vG wq;exact Ze
 ):p:=h
theorem WV (h:p:=by
 have hX:R=E (ns[m].kids.getD 0 0) d:=eT;have aj:=hsz;rw [hX] at aj
 try simp only [ByteArray.size_append] at aj
 have dm:=hid (fun(u:ByteArray) (w:World) (hw:Wr W0 B (.slice p ns.length c) u (d:Int) w) (hs:u.size+(E (ns[m].kids.getD 0 0) d).size≤1000000000)=>hE (ns[m].kids.getD 0 0) d u w hw eA.1 aa aa hs);generalize E (ns[m].kids.getD 0 0) d=s0 at*;generalize ns[m].kids.getD 0 0=k0 at*;have gy:=hid hX;have cw:=h.cell0;have lw:=h.size;have H:=hid h;have LK:=hid (And.intro aS True.intro);have rB:aq<w.heap.size:=Nat.lt_of_lt_of_le aS H.out.below.size;have dI:=(H.out.below.cell (p:=⟨aq,_,none⟩) aS).trans dQ;rw [Nat.add_zero] at dI;rw [Nat.add_zero] at dQ;have ij:=hid dQ;clear hE hR hX hN ht hv aT aJ hsz bK aX hf hIn bZ h eA dQ aS;generalize ns[m]=x at*;obtain⟨xk,xt,xp,xc,aK,aP⟩:=x;simp only at c0 c1 c2 c3 hk aj gy bu dY bf ⊢;subst hk hp;clear hm;subst bf;generalize ns.length=L at*;generalize aK.length=xl at*;have bQ:Below w.heap.size w (w.alloc (.cells #[.int .i64 26,.string xt,.slice (some ⟨aq,aU,none⟩) xl xc,.int .i64 aP] 56)):=bA (Below.refl _ _) _;have h0:=H.out.later bQ;have cI:=hid (aC (B:=B) bQ);have dW:=hid (heap_alloc_new w (.cells #[.int .i64 26,.string xt,.slice (some ⟨aq,aU,none⟩) xl xc,.int .i64 aP] 56));have dH:w.heap.size≠B:=aa;have hP:=dm.out _ _ h0 bg;have cR:=hid hP;clear bQ h0 hP H;go_enter Tryz.func148,Tryz.ntmps148;go_wp2_with (go_at_call 148;with_reducible refine(cR.out).mono ?_);exact NQ
 ):p:=h
theorem WW (h:p:=by
 have hX:R=ns[m].text++(⟨#[32,61,32]⟩:ByteArray)++E (ns[m].kids.getD 0 0) d:=eT;have aj:=hsz;rw [hX] at aj
 try simp only [ByteArray.size_append] at aj
 have dm:=hid (fun(u:ByteArray) (w:World) (hw:Wr W0 B (.slice p ns.length c) u (d:Int) w) (hs:u.size+(E (ns[m].kids.getD 0 0) d).size≤1000000000)=>hE (ns[m].kids.getD 0 0) d u w hw eA.1 aa aa hs);generalize E (ns[m].kids.getD 0 0) d=s0 at*;generalize ns[m].kids.getD 0 0=k0 at*;have gy:=hid hX;have cw:=h.cell0;have lw:=h.size;have H:=hid h;have LK:=hid (And.intro aS True.intro);have rB:aq<w.heap.size:=Nat.lt_of_lt_of_le aS H.out.below.size;have dI:=(H.out.below.cell (p:=⟨aq,_,none⟩) aS).trans dQ;rw [Nat.add_zero] at dI;rw [Nat.add_zero] at dQ;have ij:=hid dQ;clear hE hR hX hN ht hv aT aJ hsz bK aX hf hIn bZ h eA dQ aS;generalize ns[m]=x at*;obtain⟨xk,xt,xp,xc,aK,aP⟩:=x;simp only at c0 c1 c2 c3 hk aj gy bu dY bf ⊢;subst hk hp;clear hm;subst bf;generalize ns.length=L at*;generalize aK.length=xl at*;have bQ:Below w.heap.size w (w.alloc (.cells #[.int .i64 25,.string xt,.slice (some ⟨aq,aU,none⟩) xl xc,.int .i64 aP] 56)):=bA (Below.refl _ _) _;have h0:=H.out.later bQ;have cI:=hid (aC (B:=B) bQ);have dW:=hid (heap_alloc_new w (.cells #[.int .i64 25,.string xt,.slice (some ⟨aq,aU,none⟩) xl xc,.int .i64 aP] 56));have dH:w.heap.size≠B:=aa;have hP:=Mw h0 xt ⟨#[32,61,32]⟩ bg;rw [World.size_alloc] at hP;have cR:=hid hP;clear bQ h0 hP H;go_enter Tryz.func148,Tryz.ntmps148;go_wp2_with (go_at_call 44;with_reducible refine(cR.out).mono ?_);rintro e w1 ⟨rfl,h1,aR⟩;have cm:=hid (cI.out.trans aR);have dJ:=hid (aR.2 _ _ _ dW.out ai dH);have lF:w1.cell? ⟨w.heap.size,1,none⟩=some (.string xt):=cJ;have lG:w1.cell? ⟨w.heap.size,2,none⟩=some (.slice (some ⟨aq,aU,none⟩) xl xc):=cJ;have lH:w.heap.size<w1.heap.size:=(Array.getElem?_eq_some_iff.1 dJ.out).1;have je:=(h1.below.cell (p:=⟨aq,_,none⟩) LK.out.1).trans ij.out;have rC:aq<w1.heap.size:=Nat.lt_of_lt_of_le LK.out.1 h1.below.size;have dG:=hid (dm.out _ w1 h1 bg);clear h1 aR cR cI dW rB dI;go_wp2_with (go_at_call 148;with_reducible refine(dG.out).mono ?_);exact NS
 ):p:=h
theorem WX (h:p:=by
 have hX:R=dR ns E (ns[m].kids.getD 0 0) d++(⟨#[46]⟩:ByteArray)++ns[m].text:=eT;have aj:=hsz;rw [hX] at aj
 try simp only [ByteArray.size_append] at aj
 have hx0:oh (aB ns (ns[m].kids.getD 0 0)).toNat=true:=jR (c:=101) (f:=[]) hf ai ai ai bu;have dm:=hid (fun(u:ByteArray) (w:World) (hw:Wr W0 B (.slice p ns.length c) u (d:Int) w) (hs:u.size+(dR ns E (ns[m].kids.getD 0 0) d).size≤1000000000)=>yy ht hN aJ hE (ns[m].kids.getD 0 0) d u w hw eA.1 aa aa hx0 hs);clear hx0;generalize dR ns E (ns[m].kids.getD 0 0) d=s0 at*;generalize ns[m].kids.getD 0 0=k0 at*;have gy:=hid hX;have cw:=h.cell0;have lw:=h.size;have H:=hid h;have LK:=hid (And.intro aS True.intro);have rB:aq<w.heap.size:=Nat.lt_of_lt_of_le aS H.out.below.size;have dI:=(H.out.below.cell (p:=⟨aq,_,none⟩) aS).trans dQ;rw [Nat.add_zero] at dI;rw [Nat.add_zero] at dQ;have ij:=hid dQ;clear hE hR hX hN ht hv aT aJ hsz bK aX hf hIn bZ h eA dQ aS;generalize ns[m]=x at*;obtain⟨xk,xt,xp,xc,aK,aP⟩:=x;simp only at c0 c1 c2 c3 hk aj gy bu dY bf ⊢;subst hk hp;clear hm;subst bf;generalize ns.length=L at*;generalize aK.length=xl at*;have bQ:Below w.heap.size w (w.alloc (.cells #[.int .i64 18,.string xt,.slice (some ⟨aq,aU,none⟩) xl xc,.int .i64 aP] 56)):=bA (Below.refl _ _) _;have h0:=H.out.later bQ;have cI:=hid (aC (B:=B) bQ);have dW:=hid (heap_alloc_new w (.cells #[.int .i64 18,.string xt,.slice (some ⟨aq,aU,none⟩) xl xc,.int .i64 aP] 56));have dH:w.heap.size≠B:=aa;have hP:=dm.out _ _ h0 bg;have cR:=hid hP;clear bQ h0 hP H;go_enter Tryz.func148,Tryz.ntmps148;go_wp2_with (go_at_call 198;with_reducible refine(cR.out).mono ?_);rintro e w1 ⟨rfl,h1,aR⟩;have cm:=hid (cI.out.trans aR);have dJ:=hid (aR.2 _ _ _ dW.out ai dH);have lF:w1.cell? ⟨w.heap.size,1,none⟩=some (.string xt):=cJ;have lG:w1.cell? ⟨w.heap.size,2,none⟩=some (.slice (some ⟨aq,aU,none⟩) xl xc):=cJ;have lH:w.heap.size<w1.heap.size:=(Array.getElem?_eq_some_iff.1 dJ.out).1;have je:=(h1.below.cell (p:=⟨aq,_,none⟩) LK.out.1).trans ij.out;have rC:aq<w1.heap.size:=Nat.lt_of_lt_of_le LK.out.1 h1.below.size;have dG:=hid (Mw h1 ⟨#[46]⟩ xt bg);clear h1 aR cR cI dW rB dI;go_wp2_with (go_at_call 44;with_reducible refine(dG.out).mono ?_);exact NS
 ):p:=h
theorem WY (h:p:=by
 have hX:R=dR ns E (ns[m].kids.getD 0 0) d++(⟨#[40]⟩:ByteArray)++dL E (ns[m].kids.drop 1) d++(⟨#[41]⟩:ByteArray):=eT;have aj:=hsz;rw [hX] at aj
 try simp only [ByteArray.size_append] at aj
 have hx0:oh (aB ns (ns[m].kids.getD 0 0)).toNat=true:=jR (c:=101) (f:=[101,42]) hf ai ai ai bu;have dm:=hid (fun(u:ByteArray) (w:World) (hw:Wr W0 B (.slice p ns.length c) u (d:Int) w) (hs:u.size+(dR ns E (ns[m].kids.getD 0 0) d).size≤1000000000)=>yy ht hN aJ hE (ns[m].kids.getD 0 0) d u w hw eA.1 aa aa hx0 hs);clear hx0;have hI1:bC W0 (some ⟨aq,aU+1,none⟩) (ns[m].kids.drop 1):=by
  exact Zp
 have H7:(ns[m].kids.drop 1).length=ns[m].kids.length - 1:=ak;have jS:∀i,i<(ns[m].kids.drop 1).length→0≤(ns[m].kids.drop 1).getD i 0∧(ns[m].kids.drop 1).getD i 0<(m:Int):=fun i hi=>by
  have e:(ns[m].kids.drop 1).getD i 0=ns[m].kids.getD (i+1) 0:=by simp [List.getD,List.getElem?_drop,Nat.add_comm]
  rw [e];exact bZ (i+1) (by rw [H7] at hi;omega)
 have hD1:∀(cc:Nat) (u:ByteArray) (w:World),Wr W0 B (.slice p ns.length c) u (d:Int) w→u.size+(dL E (ns[m].kids.drop 1) d).size≤1000000000→Calls Tryz.prog 196 #[.pointer (some ⟨B,0,none⟩),.slice (some ⟨aq,aU+1,none⟩) (ns[m].kids.length - 1) cc,.func (.func 148) #[.pointer (some ⟨B,0,none⟩)] #[]] w (aI W0 B (.slice p ns.length c) (u++dL E (ns[m].kids.drop 1) d) (d:Int) w):=fun cc u w hw hs=>by
  have h9:=mR (ns[m].kids.drop 1) (some ⟨aq,aU+1,none⟩) cc (fun i=>E ((ns[m].kids.drop 1).getD i 0) d) u (d:Int) w hw hI1 aa (fun i hi u w hw hs=>by
   have:=jS i hi;exact hE _ d u w hw this.1 aa aa hs) hs
  rw [←H7];exact h9
 have kj:=hid hD1;have hDz:ns[m].kids.length=1→∀(a:Option Addr) (cc:Nat) (u:ByteArray) (w:World),Wr W0 B (.slice p ns.length c) u (d:Int) w→u.size+(dL E (ns[m].kids.drop 1) d).size≤1000000000→Calls Tryz.prog 196 #[.pointer (some ⟨B,0,none⟩),.slice a 0 cc,.func (.func 148) #[.pointer (some ⟨B,0,none⟩)] #[]] w (aI W0 B (.slice p ns.length c) (u++dL E (ns[m].kids.drop 1) d) (d:Int) w):=fun h1 a cc u w hw hs=>by
  have e:ns[m].kids.drop 1=[]:=List.drop_eq_nil_of_le aa;rw [e] at hs ⊢;exact mR [] a cc (fun i=>E (([]:List Int).getD i 0) d) u (d:Int) w hw (.inl rfl) ak (fun i hi=>absurd hi ak) hs
 have Iz:=hid hDz;have hlc:(ns[m].kids.length:Int)≤(ns[m].aG:Int):=aa;have hl1:(1:Int)≤(ns[m].kids.length:Int):=aa;clear hD1 hDz hI1 H7 jS;generalize dR ns E (ns[m].kids.getD 0 0) d=s0 at*;generalize dL E (ns[m].kids.drop 1) d=s1 at*;generalize ns[m].kids.getD 0 0=k0 at*;have gy:=hid hX;have cw:=h.cell0;have lw:=h.size;have H:=hid h;have LK:=hid (And.intro aS True.intro);have rB:aq<w.heap.size:=Nat.lt_of_lt_of_le aS H.out.below.size;have dI:=(H.out.below.cell (p:=⟨aq,_,none⟩) aS).trans dQ;rw [Nat.add_zero] at dI;rw [Nat.add_zero] at dQ;have ij:=hid dQ;clear hE hR hX hN ht hv aT aJ hsz bK aX hf hIn bZ h eA dQ aS;generalize ns[m]=x at*;obtain⟨xk,xt,xp,xc,aK,aP⟩:=x;simp only at c0 c1 c2 c3 hk aj gy bu dY bf hlc hl1 kj Iz ⊢;subst hk hp;clear hm;subst bf;generalize ns.length=L at*;generalize aK.length=xl at*;have bQ:Below w.heap.size w (w.alloc (.cells #[.int .i64 20,.string xt,.slice (some ⟨aq,aU,none⟩) xl xc,.int .i64 aP] 56)):=bA (Below.refl _ _) _;have h0:=H.out.later bQ;have cI:=hid (aC (B:=B) bQ);have dW:=hid (heap_alloc_new w (.cells #[.int .i64 20,.string xt,.slice (some ⟨aq,aU,none⟩) xl xc,.int .i64 aP] 56));have dH:w.heap.size≠B:=aa;by_cases hx1:xc=1
 ·obtain rfl:xl=1:=by omega
  subst hx1;have HC2:=hid (Iz.out rfl);clear Iz kj;have hP:=dm.out _ _ h0 bg;have cR:=hid hP;clear bQ h0 hP H;go_enter Tryz.func148,Tryz.ntmps148;go_wp2_with (go_at_call 198;with_reducible refine(cR.out).mono ?_);rintro e w1 ⟨rfl,h1,aR⟩;have cm:=hid (cI.out.trans aR);have dJ:=hid (aR.2 _ _ _ dW.out ai dH);have lF:w1.cell? ⟨w.heap.size,1,none⟩=some (.string xt):=cJ;have lG:w1.cell? ⟨w.heap.size,2,none⟩=some (.slice (some ⟨aq,aU,none⟩) 1 1):=cJ;have lH:w.heap.size<w1.heap.size:=(Array.getElem?_eq_some_iff.1 dJ.out).1;have je:=(h1.below.cell (p:=⟨aq,_,none⟩) LK.out.1).trans ij.out;have rC:aq<w1.heap.size:=Nat.lt_of_lt_of_le LK.out.1 h1.below.size;have dG:=hid (cW h1 ⟨#[40]⟩ bg);clear h1 aR cR cI dW rB dI;go_wp2_with (go_at_call 44;with_reducible refine(dG.out).mono ?_);rintro e w2 ⟨rfl,h2,hk2⟩;have eD:=hid (cm.out.trans hk2);have fW:=hid (hk2.2 _ _ _ dJ.out ai dH);have sW:w2.cell? ⟨w.heap.size,1,none⟩=some (.string xt):=cg;have tG:w2.cell? ⟨w.heap.size,2,none⟩=some (.slice (some ⟨aq,aU,none⟩) 1 1):=cg;have tH:w.heap.size<w2.heap.size:=(Array.getElem?_eq_some_iff.1 fW.out).1;have lC:=(h2.below.cell (p:=⟨aq,_,none⟩) LK.out.1).trans ij.out;have wq:aq<w2.heap.size:=Nat.lt_of_lt_of_le LK.out.1 h2.below.size;have eI:=hid (HC2.out (some ⟨aq,aU,none⟩) 0 _ w2 h2 bg);clear h2 hk2 dG cm dJ lF lG lH je rC;go_wp2_with (go_at_call 196;with_reducible refine(eI.out).mono ?_);rintro e w3 ⟨rfl,h3,hk3⟩;have lJ:=hid (eD.out.trans hk3);have lI:=hid (hk3.2 _ _ _ fW.out ai dH);have Ih:w3.cell? ⟨w.heap.size,1,none⟩=some (.string xt):=ey;have Ii:w3.cell? ⟨w.heap.size,2,none⟩=some (.slice (some ⟨aq,aU,none⟩) 1 1):=ey;exact YY
 ·have hx2:(1:Int)<(xc:Int):=by omega
  clear Iz;have hP:=dm.out _ _ h0 bg;have cR:=hid hP;clear bQ h0 hP H;go_enter Tryz.func148,Tryz.ntmps148;go_wp2_with (go_at_call 198;with_reducible refine(cR.out).mono ?_);rintro e w1 ⟨rfl,h1,aR⟩;have cm:=hid (cI.out.trans aR);have dJ:=hid (aR.2 _ _ _ dW.out ai dH);have lF:w1.cell? ⟨w.heap.size,1,none⟩=some (.string xt):=cJ;have lG:w1.cell? ⟨w.heap.size,2,none⟩=some (.slice (some ⟨aq,aU,none⟩) xl xc):=cJ;have lH:w.heap.size<w1.heap.size:=(Array.getElem?_eq_some_iff.1 dJ.out).1;have je:=(h1.below.cell (p:=⟨aq,_,none⟩) LK.out.1).trans ij.out;have rC:aq<w1.heap.size:=Nat.lt_of_lt_of_le LK.out.1 h1.below.size;have dG:=hid (cW h1 ⟨#[40]⟩ bg);clear h1 aR cR cI dW rB dI;go_wp2_with (go_at_call 44;with_reducible refine(dG.out).mono ?_);rintro e w2 ⟨rfl,h2,hk2⟩;have eD:=hid (cm.out.trans hk2);have fW:=hid (hk2.2 _ _ _ dJ.out ai dH);have sW:w2.cell? ⟨w.heap.size,1,none⟩=some (.string xt):=cg;have tG:w2.cell? ⟨w.heap.size,2,none⟩=some (.slice (some ⟨aq,aU,none⟩) xl xc):=cg;have tH:w.heap.size<w2.heap.size:=(Array.getElem?_eq_some_iff.1 fW.out).1;have lC:=(h2.below.cell (p:=⟨aq,_,none⟩) LK.out.1).trans ij.out;have wq:aq<w2.heap.size:=Nat.lt_of_lt_of_le LK.out.1 h2.below.size;have eI:=hid (kj.out (xc - 1) _ w2 h2 bg);clear h2 hk2 dG cm dJ lF lG lH je rC;go_wp2_with (go_at_call 196;with_reducible refine(eI.out).mono ?_);rintro e w3 ⟨rfl,h3,hk3⟩;have lJ:=hid (eD.out.trans hk3);have lI:=hid (hk3.2 _ _ _ fW.out ai dH);have Ih:w3.cell? ⟨w.heap.size,1,none⟩=some (.string xt):=ey;have Ii:w3.cell? ⟨w.heap.size,2,none⟩=some (.slice (some ⟨aq,aU,none⟩) xl xc):=ey;exact YY
 ):p:=h
theorem WZ (h:p:=by
 have hX:R=mq ns E ns[m] d:=eT;have aj:=hsz;rw [hX] at aj
 try simp only [ByteArray.size_append] at aj
 have h2k:2≤ns[m].kids.length:=bK
 first
 |(have:=OG;exact Wp)
 |(have:=OI;exact Wq)
 |(have:=OJ;exact Ws)
 ):p:=h
theorem qh (h:p:=by
 obtain⟨R,hR⟩:∃R,R=aF ns E K S ns[m] d:=⟨_,rfl⟩;rw [←hR] at hsz ⊢
 first
 |(have:=TH;exact adV)
 |(have:=TM;exact adW)
 |(have:=TN;exact adX)
 |(have:=TQ;exact adY)
 |(have:=TS;exact adZ)
 |(have:=TU;exact ad0)
 |(have:=UD;exact ad1)
 |(have:=UE;exact ad2)
 |(have:=VU;exact ad3)
 |(have:=Px;exact WV)
 |(have:=Py;exact WW)
 |(have:=Pz;exact WX)
 |(have:=PA;exact WY)
 |(have:=PC;exact WZ)
 ):p:=h
theorem ad4 (h:p:=by
 have hX:R=bP d++((⟨#[119,104,105,108,101,32]⟩:ByteArray)++E (ns[m].kids.getD 0 0) d++(⟨#[32,100,111,10]⟩:ByteArray)++aL ns S (ns[m].kids.getD 1 0) (d+1)++bP d++(⟨#[101,110,100]⟩:ByteArray))++(⟨#[10]⟩:ByteArray):=nW;have aj:=hsz;rw [hX] at aj
 try simp only [ByteArray.size_append] at aj
 have dm:=hid (fun(u:ByteArray) (w:World) (hw:Wr W0 B (.slice p ns.length c) u (d:Int) w) (hs:u.size+(E (ns[m].kids.getD 0 0) d).size≤1000000000)=>hE (ns[m].kids.getD 0 0) d u w hw eA.1 aa aa hs);have kj:=hid (fun(u:ByteArray) (w:World) (hw:Wr W0 B (.slice p ns.length c) u (d:Int) w) (hs:u.size+(aL ns S (ns[m].kids.getD 1 0) (d+1)).size≤1000000000)=>nA ht hN aJ hS (ns[m].kids.getD 1 0) (d:Int) (d+1) aa u w hw iq.1 aa aa aa hs);have iM:d≤2000:=aa;generalize E (ns[m].kids.getD 0 0) d=s0 at*;generalize aL ns S (ns[m].kids.getD 1 0) (d+1)=s1 at*;generalize ns[m].kids.getD 0 0=k0 at*;generalize ns[m].kids.getD 1 0=k1 at*;have gy:=hid hX;have cw:=h.cell0;have lw:=h.size;have H:=hid h;rw [bf] at fA;cases fA;have LK:=hid (And.intro aS True.intro);have rB:aq<w.heap.size:=Nat.lt_of_lt_of_le aS H.out.below.size;have dI:=(H.out.below.cell (p:=⟨aq,_,none⟩) aS).trans dQ;have pN:=(H.out.below.cell (p:=⟨aq,_,none⟩) aS).trans oM;rw [Nat.add_zero] at dI;rw [Nat.add_zero] at dQ;have ij:=hid dQ;have nX:=hid oM;clear hE hK hS hR hX hN ht hv aT aJ hsz bK aX hf hIn bZ h eA dQ iq oM aS Bl;generalize ns[m]=x at*;obtain⟨xk,xt,xp,xc,aK,aP⟩:=x;simp only at c0 c1 c2 c3 hk aj gy bu dY gC mA bf ⊢;subst hk hp;clear hm;subst bf;generalize ns.length=L at*;generalize aK.length=xl at*;have bQ:Below w.heap.size w (w.alloc (.cells #[.int .i64 9,.string xt,.slice (some ⟨aq,aU,none⟩) xl xc,.int .i64 aP] 56)):=bA (Below.refl _ _) _;have h0:=H.out.later bQ;have cI:=hid (aC (B:=B) bQ);have dW:=hid (heap_alloc_new w (.cells #[.int .i64 9,.string xt,.slice (some ⟨aq,aU,none⟩) xl xc,.int .i64 aP] 56));have dH:w.heap.size≠B:=aa;have hP:=pV h0 iM bg;have cR:=hid hP;clear bQ h0 hP H;go_enter Tryz.func95,Tryz.ntmps95;go_wp2_with (go_at_call 144;with_reducible refine(cR.out).mono ?_);rintro e w1 ⟨rfl,h1,aR⟩;have cm:=hid (cI.out.trans aR);have dJ:=hid (aR.2 _ _ _ dW.out ai dH);have CG:w1.cell? ⟨w.heap.size,0,none⟩=some (.int .i64 9):=cJ;have lF:w1.cell? ⟨w.heap.size,1,none⟩=some (.string xt):=cJ;have lG:w1.cell? ⟨w.heap.size,2,none⟩=some (.slice (some ⟨aq,aU,none⟩) xl xc):=cJ;have lH:w.heap.size<w1.heap.size:=(Array.getElem?_eq_some_iff.1 dJ.out).1;have je:=(h1.below.cell (p:=⟨aq,_,none⟩) LK.out.1).trans ij.out;have vF:=(h1.below.cell (p:=⟨aq,_,none⟩) LK.out.1).trans nX.out;have rC:aq<w1.heap.size:=Nat.lt_of_lt_of_le LK.out.1 h1.below.size;have dG:=hid (cW h1 ⟨#[119,104,105,108,101,32]⟩ bg);clear h1 aR cR cI dW rB dI pN;go_wp2_with (go_at_call 44;with_reducible refine(dG.out).mono ?_);rintro e w2 ⟨rfl,h2,hk2⟩;have eD:=hid (cm.out.trans hk2);have fW:=hid (hk2.2 _ _ _ dJ.out ai dH);have Ij:w2.cell? ⟨w.heap.size,0,none⟩=some (.int .i64 9):=cg;have sW:w2.cell? ⟨w.heap.size,1,none⟩=some (.string xt):=cg;have tG:w2.cell? ⟨w.heap.size,2,none⟩=some (.slice (some ⟨aq,aU,none⟩) xl xc):=cg;have tH:w.heap.size<w2.heap.size:=(Array.getElem?_eq_some_iff.1 fW.out).1;have lC:=(h2.below.cell (p:=⟨aq,_,none⟩) LK.out.1).trans ij.out;have vG:=(h2.below.cell (p:=⟨aq,_,none⟩) LK.out.1).trans nX.out;have wq:aq<w2.heap.size:=Nat.lt_of_lt_of_le LK.out.1 h2.below.size;have eI:=hid (dm.out _ w2 h2 bg);clear h2 hk2 dG cm dJ lF lG lH je vF rC CG;go_wp2_with (go_at_call 148;with_reducible refine(eI.out).mono ?_);rintro e w3 ⟨rfl,h3,hk3⟩;have lJ:=hid (eD.out.trans hk3);have lI:=hid (hk3.2 _ _ _ fW.out ai dH);have QO:w3.cell? ⟨w.heap.size,0,none⟩=some (.int .i64 9):=ey;have Ih:w3.cell? ⟨w.heap.size,1,none⟩=some (.string xt):=ey;have Ii:w3.cell? ⟨w.heap.size,2,none⟩=some (.slice (some ⟨aq,aU,none⟩) xl xc):=ey;have Jf:w.heap.size<w3.heap.size:=(Array.getElem?_eq_some_iff.1 lI.out).1;have vu:=(h3.below.cell (p:=⟨aq,_,none⟩) LK.out.1).trans ij.out;have zY:=(h3.below.cell (p:=⟨aq,_,none⟩) LK.out.1).trans nX.out;have FM:aq<w3.heap.size:=Nat.lt_of_lt_of_le LK.out.1 h3.below.size;have vv:=hid (cW h3 ⟨#[32,100,111,10]⟩ bg);clear h3 hk3 eI eD fW sW tG tH lC vG wq Ij;go_wp2_with (go_at_call 44;with_reducible refine(vv.out).mono ?_);rintro e w4 ⟨rfl,h4,hk4⟩;have zV:=hid (lJ.out.trans hk4);have BS:=hid (hk4.2 _ _ _ lI.out ai dH);have cV4:w4.cell? ⟨w.heap.size,0,none⟩=some (.int .i64 9):=lg;have cY4:w4.cell? ⟨w.heap.size,1,none⟩=some (.string xt):=lg;have cZ4:w4.cell? ⟨w.heap.size,2,none⟩=some (.slice (some ⟨aq,aU,none⟩) xl xc):=lg;have lY4:w.heap.size<w4.heap.size:=(Array.getElem?_eq_some_iff.1 BS.out).1;have Iw:=(h4.below.cell (p:=⟨aq,_,none⟩) LK.out.1).trans ij.out;have Iy:=(h4.below.cell (p:=⟨aq,_,none⟩) LK.out.1).trans nX.out;have lK4:aq<w4.heap.size:=Nat.lt_of_lt_of_le LK.out.1 h4.below.size;have FR:=hid (kj.out _ w4 h4 bg);clear h4 hk4 vv lJ lI Ih Ii Jf vu zY FM QO;go_wp2_with (go_at_call 46;with_reducible refine(FR.out).mono ?_);rintro e w5 ⟨rfl,h5,wu⟩;have xY:=hid (zV.out.trans wu);have zZ:=hid (wu.2 _ _ _ BS.out ai dH);have cV5:w5.cell? ⟨w.heap.size,0,none⟩=some (.int .i64 9):=ql;have cY5:w5.cell? ⟨w.heap.size,1,none⟩=some (.string xt):=ql;have cZ5:w5.cell? ⟨w.heap.size,2,none⟩=some (.slice (some ⟨aq,aU,none⟩) xl xc):=ql;have lY5:w.heap.size<w5.heap.size:=(Array.getElem?_eq_some_iff.1 zZ.out).1;have V0:=(h5.below.cell (p:=⟨aq,_,none⟩) LK.out.1).trans ij.out;have V1:=(h5.below.cell (p:=⟨aq,_,none⟩) LK.out.1).trans nX.out;have lK5:aq<w5.heap.size:=Nat.lt_of_lt_of_le LK.out.1 h5.below.size;have Pw:=hid (Bu h5 iM ⟨#[101,110,100]⟩ bg);clear h5 wu FR zV BS cY4 cZ4 lY4 Iw Iy lK4 cV4;go_wp2_with (go_at_call 144;with_reducible refine(Pw.out).mono ?_);rintro e w6 ⟨rfl,h6,xL⟩;have Zh:=hid (xY.out.trans xL);have Zi:=hid (xL.2 _ _ _ zZ.out ai dH);have cV6:w6.cell? ⟨w.heap.size,0,none⟩=some (.int .i64 9):=xZ;have cY6:w6.cell? ⟨w.heap.size,1,none⟩=some (.string xt):=xZ;have cZ6:w6.cell? ⟨w.heap.size,2,none⟩=some (.slice (some ⟨aq,aU,none⟩) xl xc):=xZ;have lY6:w.heap.size<w6.heap.size:=(Array.getElem?_eq_some_iff.1 Zi.out).1;have akt:=(h6.below.cell (p:=⟨aq,_,none⟩) LK.out.1).trans ij.out;have aku:=(h6.below.cell (p:=⟨aq,_,none⟩) LK.out.1).trans nX.out;have lK6:aq<w6.heap.size:=Nat.lt_of_lt_of_le LK.out.1 h6.below.size;have TD:=hid (cW h6 ⟨#[10]⟩ bg);clear h6 xL Pw xY zZ cY5 cZ5 lY5 V0 V1 lK5 cV5;exact Zg
 ):p:=h
theorem ad5 (h:p:=by
 have hX:R=bP d++(E (ns[m].kids.getD 0 0) d++(if aB ns (ns[m].kids.getD 1 0)=12 then⟨#[]⟩ else(⟨#[32,61,32]⟩:ByteArray)++E (ns[m].kids.getD 1 0) d))++(⟨#[10]⟩:ByteArray):=by
  have hr:=vI (f:=[112,101]) hf ai;have hx1:aB ns (ns[m].kids.getD 1 0)≠12:=by
   have hl2:(bJ ns ns[m].kids).length=ns[m].kids.length:=by simp [bJ]
   intro Ut;generalize (bJ ns ns[m].kids).length - _=sp at hr;rw [gZ _ _ _ _ ai ai ai,Bool.and_eq_true] at hr;have hr2:=hr.2;rw [gZ _ _ _ _ ai ai ai,Bool.and_eq_true] at hr2;have h3:=List.all_eq_true.1 hr2.1 12 (by
    have h1:1<(bJ ns ns[m].kids).length:=by rw [hl2];exact gC
    have e:(bJ ns ns[m].kids)[1]=12:=by
     simp only [bJ,List.getElem_map];have:ns[m].kids[1]=ns[m].kids.getD 1 0:=by simp [List.getD,List.getElem?_eq_getElem gC]
     rw [this,Ut];rfl
    rw [←e];refine List.mem_take_iff_getElem.2 ⟨0,by simp;omega, ?_⟩;simp)
   exact absurd h3 ai
  have e:aQ ns E K S ns[m] d=E (ns[m].kids.getD 0 0) d++(⟨#[32,61,32]⟩:ByteArray)++E (ns[m].kids.getD 1 0) d:=by rw [aQ,hk];rfl
  rw [if_neg hx1,hR,e];simp only [ByteArray.append_assoc]
 have aj:=hsz;rw [hX] at aj
 try simp only [ByteArray.size_append] at aj
 have dm:=hid (fun(u:ByteArray) (w:World) (hw:Wr W0 B (.slice p ns.length c) u (d:Int) w) (hs:u.size+(E (ns[m].kids.getD 0 0) d).size≤1000000000)=>hE (ns[m].kids.getD 0 0) d u w hw eA.1 aa aa hs);have kj:=hid (fun(u:ByteArray) (w:World) (hw:Wr W0 B (.slice p ns.length c) u (d:Int) w) (hs:u.size+(if aB ns (ns[m].kids.getD 1 0)=12 then⟨#[]⟩ else(⟨#[32,61,32]⟩:ByteArray)++E (ns[m].kids.getD 1 0) d).size≤1000000000)=>qP hN aJ hE (ns[m].kids.getD 1 0) ⟨#[32,61,32]⟩ d u w hw iq.1 aa aa hs);have iM:d≤2000:=aa;generalize (if aB ns (ns[m].kids.getD 1 0)=12 then⟨#[]⟩ else(⟨#[32,61,32]⟩:ByteArray)++E (ns[m].kids.getD 1 0) d)=s1 at*;generalize E (ns[m].kids.getD 0 0) d=s0 at*;generalize ns[m].kids.getD 0 0=k0 at*;generalize ns[m].kids.getD 1 0=k1 at*;have gy:=hid hX;have cw:=h.cell0;have lw:=h.size;have H:=hid h;rw [bf] at fA;cases fA;have LK:=hid (And.intro aS True.intro);have rB:aq<w.heap.size:=Nat.lt_of_lt_of_le aS H.out.below.size;have dI:=(H.out.below.cell (p:=⟨aq,_,none⟩) aS).trans dQ;have pN:=(H.out.below.cell (p:=⟨aq,_,none⟩) aS).trans oM;rw [Nat.add_zero] at dI;rw [Nat.add_zero] at dQ;have ij:=hid dQ;have nX:=hid oM;clear hE hK hS hR hX hN ht hv aT aJ hsz bK aX hf hIn bZ h eA dQ iq oM aS Bl;generalize ns[m]=x at*;obtain⟨xk,xt,xp,xc,aK,aP⟩:=x;simp only at c0 c1 c2 c3 hk aj gy bu dY gC mA bf ⊢;subst hk hp;clear hm;subst bf;generalize ns.length=L at*;generalize aK.length=xl at*;have bQ:Below w.heap.size w (w.alloc (.cells #[.int .i64 6,.string xt,.slice (some ⟨aq,aU,none⟩) xl xc,.int .i64 aP] 56)):=bA (Below.refl _ _) _;have h0:=H.out.later bQ;have cI:=hid (aC (B:=B) bQ);have dW:=hid (heap_alloc_new w (.cells #[.int .i64 6,.string xt,.slice (some ⟨aq,aU,none⟩) xl xc,.int .i64 aP] 56));have dH:w.heap.size≠B:=aa;have hP:=pV h0 iM bg;have cR:=hid hP;clear bQ h0 hP H;go_enter Tryz.func95,Tryz.ntmps95;go_wp2_with (go_at_call 144;with_reducible refine(cR.out).mono ?_);rintro e w1 ⟨rfl,h1,aR⟩;have cm:=hid (cI.out.trans aR);have dJ:=hid (aR.2 _ _ _ dW.out ai dH);have CG:w1.cell? ⟨w.heap.size,0,none⟩=some (.int .i64 6):=cJ;have lF:w1.cell? ⟨w.heap.size,1,none⟩=some (.string xt):=cJ;have lG:w1.cell? ⟨w.heap.size,2,none⟩=some (.slice (some ⟨aq,aU,none⟩) xl xc):=cJ;have lH:w.heap.size<w1.heap.size:=(Array.getElem?_eq_some_iff.1 dJ.out).1;have je:=(h1.below.cell (p:=⟨aq,_,none⟩) LK.out.1).trans ij.out;have vF:=(h1.below.cell (p:=⟨aq,_,none⟩) LK.out.1).trans nX.out;have rC:aq<w1.heap.size:=Nat.lt_of_lt_of_le LK.out.1 h1.below.size;have dG:=hid (dm.out _ w1 h1 bg);clear h1 aR cR cI dW rB dI pN;go_wp2_with (go_at_call 148;with_reducible refine(dG.out).mono ?_);rintro e w2 ⟨rfl,h2,hk2⟩;have eD:=hid (cm.out.trans hk2);have fW:=hid (hk2.2 _ _ _ dJ.out ai dH);have Ij:w2.cell? ⟨w.heap.size,0,none⟩=some (.int .i64 6):=cg;have sW:w2.cell? ⟨w.heap.size,1,none⟩=some (.string xt):=cg;have tG:w2.cell? ⟨w.heap.size,2,none⟩=some (.slice (some ⟨aq,aU,none⟩) xl xc):=cg;have tH:w.heap.size<w2.heap.size:=(Array.getElem?_eq_some_iff.1 fW.out).1;have lC:=(h2.below.cell (p:=⟨aq,_,none⟩) LK.out.1).trans ij.out;have vG:=(h2.below.cell (p:=⟨aq,_,none⟩) LK.out.1).trans nX.out;have wq:aq<w2.heap.size:=Nat.lt_of_lt_of_le LK.out.1 h2.below.size;have eI:=hid (kj.out _ w2 h2 bg);clear h2 hk2 dG cm dJ lF lG lH je vF rC CG;go_wp2_with (go_at_call 146;with_reducible refine(eI.out).mono ?_);rintro e w3 ⟨rfl,h3,hk3⟩;have lJ:=hid (eD.out.trans hk3);have lI:=hid (hk3.2 _ _ _ fW.out ai dH);have QO:w3.cell? ⟨w.heap.size,0,none⟩=some (.int .i64 6):=ey;have Ih:w3.cell? ⟨w.heap.size,1,none⟩=some (.string xt):=ey;have Ii:w3.cell? ⟨w.heap.size,2,none⟩=some (.slice (some ⟨aq,aU,none⟩) xl xc):=ey;have Jf:w.heap.size<w3.heap.size:=(Array.getElem?_eq_some_iff.1 lI.out).1;have vu:=(h3.below.cell (p:=⟨aq,_,none⟩) LK.out.1).trans ij.out;have zY:=(h3.below.cell (p:=⟨aq,_,none⟩) LK.out.1).trans nX.out;have FM:aq<w3.heap.size:=Nat.lt_of_lt_of_le LK.out.1 h3.below.size;have vv:=hid (cW h3 ⟨#[10]⟩ bg);clear h3 hk3 eI eD fW sW tG tH lC vG wq Ij;exact Ze
 ):p:=h
theorem ad6 (h:p:=by
 have hX:R=bP d++((⟨#[108,111,99,97,108,32]⟩:ByteArray)++ns[m].text++bO ns K (ns[m].kids.getD 0 0)++(if aB ns (ns[m].kids.getD 1 0)=12 then⟨#[]⟩ else(⟨#[32,61,32]⟩:ByteArray)++E (ns[m].kids.getD 1 0) d))++(⟨#[10]⟩:ByteArray):=by
  have e:aQ ns E K S ns[m] d=(if aB ns (ns[m].kids.getD 1 0)=12 then(⟨#[108,111,99,97,108,32]⟩:ByteArray)++ns[m].text++bO ns K (ns[m].kids.getD 0 0) else(⟨#[108,111,99,97,108,32]⟩:ByteArray)++ns[m].text++bO ns K (ns[m].kids.getD 0 0)++((⟨#[32,61,32]⟩:ByteArray)++E (ns[m].kids.getD 1 0) d)):=by rw [aQ,hk];rfl
  rw [hR,e];by_cases fV:aB ns (ns[m].kids.getD 1 0)=12
  ·rw [if_pos fV,if_pos fV,fJ]
  ·rw [if_neg fV,if_neg fV]
 have aj:=hsz;rw [hX] at aj
 try simp only [ByteArray.size_append] at aj
 have dm:=hid (fun(u:ByteArray) (w:World) (hw:Wr W0 B (.slice p ns.length c) u (d:Int) w) (hs:u.size+(bO ns K (ns[m].kids.getD 0 0)).size≤1000000000)=>uK hN aJ hK (ns[m].kids.getD 0 0) (d:Int) u w hw eA.1 aa hs);have kj:=hid (fun(u:ByteArray) (w:World) (hw:Wr W0 B (.slice p ns.length c) u (d:Int) w) (hs:u.size+(if aB ns (ns[m].kids.getD 1 0)=12 then⟨#[]⟩ else(⟨#[32,61,32]⟩:ByteArray)++E (ns[m].kids.getD 1 0) d).size≤1000000000)=>qP hN aJ hE (ns[m].kids.getD 1 0) ⟨#[32,61,32]⟩ d u w hw iq.1 aa aa hs);have iM:d≤2000:=aa;generalize (if aB ns (ns[m].kids.getD 1 0)=12 then⟨#[]⟩ else(⟨#[32,61,32]⟩:ByteArray)++E (ns[m].kids.getD 1 0) d)=s1 at*;generalize bO ns K (ns[m].kids.getD 0 0)=s0 at*;generalize ns[m].kids.getD 0 0=k0 at*;generalize ns[m].kids.getD 1 0=k1 at*;have gy:=hid hX;have cw:=h.cell0;have lw:=h.size;have H:=hid h;rw [bf] at fA;cases fA;have LK:=hid (And.intro aS True.intro);have rB:aq<w.heap.size:=Nat.lt_of_lt_of_le aS H.out.below.size;have dI:=(H.out.below.cell (p:=⟨aq,_,none⟩) aS).trans dQ;have pN:=(H.out.below.cell (p:=⟨aq,_,none⟩) aS).trans oM;rw [Nat.add_zero] at dI;rw [Nat.add_zero] at dQ;have ij:=hid dQ;have nX:=hid oM;clear hE hK hS hR hX hN ht hv aT aJ hsz bK aX hf hIn bZ h eA dQ iq oM aS Bl;generalize ns[m]=x at*;obtain⟨xk,xt,xp,xc,aK,aP⟩:=x;simp only at c0 c1 c2 c3 hk aj gy bu dY gC mA bf ⊢;subst hk hp;clear hm;subst bf;generalize ns.length=L at*;generalize aK.length=xl at*;have bQ:Below w.heap.size w (w.alloc (.cells #[.int .i64 4,.string xt,.slice (some ⟨aq,aU,none⟩) xl xc,.int .i64 aP] 56)):=bA (Below.refl _ _) _;have h0:=H.out.later bQ;have cI:=hid (aC (B:=B) bQ);have dW:=hid (heap_alloc_new w (.cells #[.int .i64 4,.string xt,.slice (some ⟨aq,aU,none⟩) xl xc,.int .i64 aP] 56));have dH:w.heap.size≠B:=aa;have hP:=pV h0 iM bg;have cR:=hid hP;clear bQ h0 hP H;go_enter Tryz.func95,Tryz.ntmps95;go_wp2_with (go_at_call 144;with_reducible refine(cR.out).mono ?_);rintro e w1 ⟨rfl,h1,aR⟩;have cm:=hid (cI.out.trans aR);have dJ:=hid (aR.2 _ _ _ dW.out ai dH);have CG:w1.cell? ⟨w.heap.size,0,none⟩=some (.int .i64 4):=cJ;have lF:w1.cell? ⟨w.heap.size,1,none⟩=some (.string xt):=cJ;have lG:w1.cell? ⟨w.heap.size,2,none⟩=some (.slice (some ⟨aq,aU,none⟩) xl xc):=cJ;have lH:w.heap.size<w1.heap.size:=(Array.getElem?_eq_some_iff.1 dJ.out).1;have je:=(h1.below.cell (p:=⟨aq,_,none⟩) LK.out.1).trans ij.out;have vF:=(h1.below.cell (p:=⟨aq,_,none⟩) LK.out.1).trans nX.out;have rC:aq<w1.heap.size:=Nat.lt_of_lt_of_le LK.out.1 h1.below.size;have dG:=hid (Mw h1 ⟨#[108,111,99,97,108,32]⟩ xt bg);clear h1 aR cR cI dW rB dI pN;go_wp2_with (go_at_call 44;with_reducible refine(dG.out).mono ?_);rintro e w2 ⟨rfl,h2,hk2⟩;have eD:=hid (cm.out.trans hk2);have fW:=hid (hk2.2 _ _ _ dJ.out ai dH);have Ij:w2.cell? ⟨w.heap.size,0,none⟩=some (.int .i64 4):=cg;have sW:w2.cell? ⟨w.heap.size,1,none⟩=some (.string xt):=cg;have tG:w2.cell? ⟨w.heap.size,2,none⟩=some (.slice (some ⟨aq,aU,none⟩) xl xc):=cg;have tH:w.heap.size<w2.heap.size:=(Array.getElem?_eq_some_iff.1 fW.out).1;have lC:=(h2.below.cell (p:=⟨aq,_,none⟩) LK.out.1).trans ij.out;have vG:=(h2.below.cell (p:=⟨aq,_,none⟩) LK.out.1).trans nX.out;have wq:aq<w2.heap.size:=Nat.lt_of_lt_of_le LK.out.1 h2.below.size;have eI:=hid (dm.out _ w2 h2 bg);clear h2 hk2 dG cm dJ lF lG lH je vF rC CG;go_wp2_with (go_at_call 145;with_reducible refine(eI.out).mono ?_);rintro e w3 ⟨rfl,h3,hk3⟩;have lJ:=hid (eD.out.trans hk3);have lI:=hid (hk3.2 _ _ _ fW.out ai dH);have QO:w3.cell? ⟨w.heap.size,0,none⟩=some (.int .i64 4):=ey;have Ih:w3.cell? ⟨w.heap.size,1,none⟩=some (.string xt):=ey;have Ii:w3.cell? ⟨w.heap.size,2,none⟩=some (.slice (some ⟨aq,aU,none⟩) xl xc):=ey;have Jf:w.heap.size<w3.heap.size:=(Array.getElem?_eq_some_iff.1 lI.out).1;have vu:=(h3.below.cell (p:=⟨aq,_,none⟩) LK.out.1).trans ij.out;have zY:=(h3.below.cell (p:=⟨aq,_,none⟩) LK.out.1).trans nX.out;have FM:aq<w3.heap.size:=Nat.lt_of_lt_of_le LK.out.1 h3.below.size;have vv:=hid (kj.out _ w3 h3 bg);clear h3 hk3 eI eD fW sW tG tH lC vG wq Ij;go_wp2_with (go_at_call 146;with_reducible refine(vv.out).mono ?_);rintro e w4 ⟨rfl,h4,hk4⟩;have zV:=hid (lJ.out.trans hk4);have BS:=hid (hk4.2 _ _ _ lI.out ai dH);have cV4:w4.cell? ⟨w.heap.size,0,none⟩=some (.int .i64 4):=lg;have cY4:w4.cell? ⟨w.heap.size,1,none⟩=some (.string xt):=lg;have cZ4:w4.cell? ⟨w.heap.size,2,none⟩=some (.slice (some ⟨aq,aU,none⟩) xl xc):=lg;have lY4:w.heap.size<w4.heap.size:=(Array.getElem?_eq_some_iff.1 BS.out).1;have Iw:=(h4.below.cell (p:=⟨aq,_,none⟩) LK.out.1).trans ij.out;have Iy:=(h4.below.cell (p:=⟨aq,_,none⟩) LK.out.1).trans nX.out;have lK4:aq<w4.heap.size:=Nat.lt_of_lt_of_le LK.out.1 h4.below.size;have FR:=hid (cW h4 ⟨#[10]⟩ bg);clear h4 hk4 vv lJ lI Ih Ii Jf vu zY FM QO;go_wp2_with (go_at_call 44;with_reducible refine(FR.out).mono ?_);rintro e w5 ⟨rfl,h5,wu⟩;have xY:=hid (zV.out.trans wu);have zZ:=hid (wu.2 _ _ _ BS.out ai dH);have HF:=hid (And.intro h5 xY.out);clear h5 wu FR xY;exact Ez
 ):p:=h
theorem ad7 (h:p:=by
 have hX:R=bP d++(E (ns[m].kids.getD 0 0) d)++(⟨#[10]⟩:ByteArray):=nW;have aj:=hsz;rw [hX] at aj
 try simp only [ByteArray.size_append] at aj
 have dm:=hid (fun(u:ByteArray) (w:World) (hw:Wr W0 B (.slice p ns.length c) u (d:Int) w) (hs:u.size+(E (ns[m].kids.getD 0 0) d).size≤1000000000)=>hE (ns[m].kids.getD 0 0) d u w hw eA.1 aa aa hs);have iM:d≤2000:=aa;generalize E (ns[m].kids.getD 0 0) d=s0 at*;generalize ns[m].kids.getD 0 0=k0 at*;have gy:=hid hX;have cw:=h.cell0;have lw:=h.size;have H:=hid h;have LK:=hid (And.intro aS True.intro);have rB:aq<w.heap.size:=Nat.lt_of_lt_of_le aS H.out.below.size;have dI:=(H.out.below.cell (p:=⟨aq,_,none⟩) aS).trans dQ;rw [Nat.add_zero] at dI;rw [Nat.add_zero] at dQ;have ij:=hid dQ;clear hE hK hS hR hX hN ht hv aT aJ hsz bK aX hf hIn bZ h eA dQ aS;generalize ns[m]=x at*;obtain⟨xk,xt,xp,xc,aK,aP⟩:=x;simp only at c0 c1 c2 c3 hk aj gy bu dY bf ⊢;subst hk hp;clear hm;subst bf;generalize ns.length=L at*;generalize aK.length=xl at*;have bQ:Below w.heap.size w (w.alloc (.cells #[.int .i64 7,.string xt,.slice (some ⟨aq,aU,none⟩) xl xc,.int .i64 aP] 56)):=bA (Below.refl _ _) _;have h0:=H.out.later bQ;have cI:=hid (aC (B:=B) bQ);have dW:=hid (heap_alloc_new w (.cells #[.int .i64 7,.string xt,.slice (some ⟨aq,aU,none⟩) xl xc,.int .i64 aP] 56));have dH:w.heap.size≠B:=aa;have hP:=pV h0 iM bg;have cR:=hid hP;clear bQ h0 hP H;go_enter Tryz.func95,Tryz.ntmps95;go_wp2_with (go_at_call 144;with_reducible refine(cR.out).mono ?_);rintro e w1 ⟨rfl,h1,aR⟩;have cm:=hid (cI.out.trans aR);have dJ:=hid (aR.2 _ _ _ dW.out ai dH);have CG:w1.cell? ⟨w.heap.size,0,none⟩=some (.int .i64 7):=cJ;have lF:w1.cell? ⟨w.heap.size,1,none⟩=some (.string xt):=cJ;have lG:w1.cell? ⟨w.heap.size,2,none⟩=some (.slice (some ⟨aq,aU,none⟩) xl xc):=cJ;have lH:w.heap.size<w1.heap.size:=(Array.getElem?_eq_some_iff.1 dJ.out).1;have je:=(h1.below.cell (p:=⟨aq,_,none⟩) LK.out.1).trans ij.out;have rC:aq<w1.heap.size:=Nat.lt_of_lt_of_le LK.out.1 h1.below.size;have dG:=hid (dm.out _ w1 h1 bg);clear h1 aR cR cI dW rB dI;go_wp2_with (go_at_call 148;with_reducible refine(dG.out).mono ?_);rintro e w2 ⟨rfl,h2,hk2⟩;have eD:=hid (cm.out.trans hk2);have fW:=hid (hk2.2 _ _ _ dJ.out ai dH);have Ij:w2.cell? ⟨w.heap.size,0,none⟩=some (.int .i64 7):=cg;have sW:w2.cell? ⟨w.heap.size,1,none⟩=some (.string xt):=cg;have tG:w2.cell? ⟨w.heap.size,2,none⟩=some (.slice (some ⟨aq,aU,none⟩) xl xc):=cg;have tH:w.heap.size<w2.heap.size:=(Array.getElem?_eq_some_iff.1 fW.out).1;have lC:=(h2.below.cell (p:=⟨aq,_,none⟩) LK.out.1).trans ij.out;have wq:aq<w2.heap.size:=Nat.lt_of_lt_of_le LK.out.1 h2.below.size;have eI:=hid (cW h2 ⟨#[10]⟩ bg);clear h2 hk2 dG cm dJ lF lG lH je rC CG;exact Zf
 ):p:=h
theorem ad8 (h:p:=by
 have hX:R=bP d++((⟨#[114,101,116,117,114,110]⟩:ByteArray)++(if aB ns (ns[m].kids.getD 0 0)=12 then⟨#[]⟩ else(⟨#[32]⟩:ByteArray)++E (ns[m].kids.getD 0 0) d))++(⟨#[10]⟩:ByteArray):=by
  have e:aQ ns E K S ns[m] d=(if aB ns (ns[m].kids.getD 0 0)=12 then⟨#[114,101,116,117,114,110]⟩ else(⟨#[114,101,116,117,114,110,32]⟩:ByteArray)++E (ns[m].kids.getD 0 0) d):=by rw [aQ,hk];rfl
  have e2:∀q:ByteArray,(⟨#[114,101,116,117,114,110]⟩:ByteArray)++((⟨#[32]⟩:ByteArray)++q)=(⟨#[114,101,116,117,114,110,32]⟩:ByteArray)++q:=fun q=>by rw [←ByteArray.append_assoc];rfl
  rw [hR,e];by_cases fV:aB ns (ns[m].kids.getD 0 0)=12
  ·rw [if_pos fV,if_pos fV,fJ]
  ·rw [if_neg fV,if_neg fV,e2]
 have aj:=hsz;rw [hX] at aj
 try simp only [ByteArray.size_append] at aj
 have dm:=hid (fun(u:ByteArray) (w:World) (hw:Wr W0 B (.slice p ns.length c) u (d:Int) w) (hs:u.size+(if aB ns (ns[m].kids.getD 0 0)=12 then⟨#[]⟩ else(⟨#[32]⟩:ByteArray)++E (ns[m].kids.getD 0 0) d).size≤1000000000)=>qP hN aJ hE (ns[m].kids.getD 0 0) ⟨#[32]⟩ d u w hw eA.1 aa aa hs);have iM:d≤2000:=aa;generalize (if aB ns (ns[m].kids.getD 0 0)=12 then⟨#[]⟩ else(⟨#[32]⟩:ByteArray)++E (ns[m].kids.getD 0 0) d)=s0 at*;generalize ns[m].kids.getD 0 0=k0 at*;have gy:=hid hX;have cw:=h.cell0;have lw:=h.size;have H:=hid h;have LK:=hid (And.intro aS True.intro);have rB:aq<w.heap.size:=Nat.lt_of_lt_of_le aS H.out.below.size;have dI:=(H.out.below.cell (p:=⟨aq,_,none⟩) aS).trans dQ;rw [Nat.add_zero] at dI;rw [Nat.add_zero] at dQ;have ij:=hid dQ;clear hE hK hS hR hX hN ht hv aT aJ hsz bK aX hf hIn bZ h eA dQ aS;generalize ns[m]=x at*;obtain⟨xk,xt,xp,xc,aK,aP⟩:=x;simp only at c0 c1 c2 c3 hk aj gy bu dY bf ⊢;subst hk hp;clear hm;subst bf;generalize ns.length=L at*;generalize aK.length=xl at*;have bQ:Below w.heap.size w (w.alloc (.cells #[.int .i64 10,.string xt,.slice (some ⟨aq,aU,none⟩) xl xc,.int .i64 aP] 56)):=bA (Below.refl _ _) _;have h0:=H.out.later bQ;have cI:=hid (aC (B:=B) bQ);have dW:=hid (heap_alloc_new w (.cells #[.int .i64 10,.string xt,.slice (some ⟨aq,aU,none⟩) xl xc,.int .i64 aP] 56));have dH:w.heap.size≠B:=aa;have hP:=pV h0 iM bg;have cR:=hid hP;clear bQ h0 hP H;go_enter Tryz.func95,Tryz.ntmps95;go_wp2_with (go_at_call 144;with_reducible refine(cR.out).mono ?_);rintro e w1 ⟨rfl,h1,aR⟩;have cm:=hid (cI.out.trans aR);have dJ:=hid (aR.2 _ _ _ dW.out ai dH);have CG:w1.cell? ⟨w.heap.size,0,none⟩=some (.int .i64 10):=cJ;have lF:w1.cell? ⟨w.heap.size,1,none⟩=some (.string xt):=cJ;have lG:w1.cell? ⟨w.heap.size,2,none⟩=some (.slice (some ⟨aq,aU,none⟩) xl xc):=cJ;have lH:w.heap.size<w1.heap.size:=(Array.getElem?_eq_some_iff.1 dJ.out).1;have je:=(h1.below.cell (p:=⟨aq,_,none⟩) LK.out.1).trans ij.out;have rC:aq<w1.heap.size:=Nat.lt_of_lt_of_le LK.out.1 h1.below.size;have dG:=hid (cW h1 ⟨#[114,101,116,117,114,110]⟩ bg);clear h1 aR cR cI dW rB dI;go_wp2_with (go_at_call 44;with_reducible refine(dG.out).mono ?_);rintro e w2 ⟨rfl,h2,hk2⟩;have eD:=hid (cm.out.trans hk2);have fW:=hid (hk2.2 _ _ _ dJ.out ai dH);have Ij:w2.cell? ⟨w.heap.size,0,none⟩=some (.int .i64 10):=cg;have sW:w2.cell? ⟨w.heap.size,1,none⟩=some (.string xt):=cg;have tG:w2.cell? ⟨w.heap.size,2,none⟩=some (.slice (some ⟨aq,aU,none⟩) xl xc):=cg;have tH:w.heap.size<w2.heap.size:=(Array.getElem?_eq_some_iff.1 fW.out).1;have lC:=(h2.below.cell (p:=⟨aq,_,none⟩) LK.out.1).trans ij.out;have wq:aq<w2.heap.size:=Nat.lt_of_lt_of_le LK.out.1 h2.below.size;have eI:=hid (dm.out _ w2 h2 bg);clear h2 hk2 dG cm dJ lF lG lH je rC CG;go_wp2_with (go_at_call 146;with_reducible refine(eI.out).mono ?_);rintro e w3 ⟨rfl,h3,hk3⟩;have lJ:=hid (eD.out.trans hk3);have lI:=hid (hk3.2 _ _ _ fW.out ai dH);have QO:w3.cell? ⟨w.heap.size,0,none⟩=some (.int .i64 10):=ey;exact YS
 ):p:=h
theorem ad9 (h:p:=by
 have hX:R=bP d++((⟨#[102,117,110,99,116,105,111,110,32]⟩:ByteArray)++ns[m].text++kQ ns K S (ns[m].kids.getD 0 0) d)++(⟨#[10]⟩:ByteArray):=nW;have aj:=hsz;rw [hX] at aj
 try simp only [ByteArray.size_append] at aj
 obtain⟨zf,Iu⟩:∃z:Nat,ns[m].kids.getD 0 0=z:=⟨(ns[m].kids.getD 0 0).toNat,by omega⟩;have hzl:zf<ns.length:=aa;have Du:ns[zf].kind=22:=by
  have h:=jR (c:=102) (f:=[]) hf ai ai ai bu;rw [Iu,aY (List.getElem?_eq_getElem hzl)] at h;have h2:ns[zf].kind.toNat=22:=Nat.eq_of_beq_eq_true h;omega
 have Dv:kQ ns K S (ns[m].kids.getD 0 0) d=fG ns K S ns[zf] d:=by unfold kQ;rw [Iu,Int.toNat_natCast,List.getElem?_eq_getElem hzl]
 have dm:=hid (fun(u:ByteArray) (w:World) (hw:Wr W0 B (.slice p ns.length c) u (d:Int) w) (hs:u.size+(kQ ns K S (ns[m].kids.getD 0 0) d).size≤1000000000)=>(show Calls Tryz.prog 147 #[.pointer (some ⟨B,0,none⟩),.int .i64 (ns[m].kids.getD 0 0)] w (aI W0 B (.slice p ns.length c) (u++kQ ns K S (ns[m].kids.getD 0 0) d) (d:Int) w) by
  rw [Dv] at hs ⊢;rw [Iu];exact F7 ht hN aJ hK hS zf d u w hw aa hzl aa Du hs))
 clear Dv Iu Du hzl;have iM:d≤2000:=aa;generalize kQ ns K S (ns[m].kids.getD 0 0) d=s0 at*;generalize ns[m].kids.getD 0 0=k0 at*;have gy:=hid hX;have cw:=h.cell0;have lw:=h.size;have H:=hid h;have LK:=hid (And.intro aS True.intro);have rB:aq<w.heap.size:=Nat.lt_of_lt_of_le aS H.out.below.size;have dI:=(H.out.below.cell (p:=⟨aq,_,none⟩) aS).trans dQ;rw [Nat.add_zero] at dI;rw [Nat.add_zero] at dQ;have ij:=hid dQ;clear hE hK hS hR hX hN ht hv aT aJ hsz bK aX hf hIn bZ h eA dQ aS;generalize ns[m]=x at*;obtain⟨xk,xt,xp,xc,aK,aP⟩:=x;simp only at c0 c1 c2 c3 hk aj gy bu dY bf ⊢;subst hk hp;clear hm;subst bf;generalize ns.length=L at*;generalize aK.length=xl at*;have bQ:Below w.heap.size w (w.alloc (.cells #[.int .i64 5,.string xt,.slice (some ⟨aq,aU,none⟩) xl xc,.int .i64 aP] 56)):=bA (Below.refl _ _) _;have h0:=H.out.later bQ;have cI:=hid (aC (B:=B) bQ);have dW:=hid (heap_alloc_new w (.cells #[.int .i64 5,.string xt,.slice (some ⟨aq,aU,none⟩) xl xc,.int .i64 aP] 56));have dH:w.heap.size≠B:=aa;have hP:=pV h0 iM bg;have cR:=hid hP;clear bQ h0 hP H;go_enter Tryz.func95,Tryz.ntmps95;go_wp2_with (go_at_call 144;with_reducible refine(cR.out).mono ?_);rintro e w1 ⟨rfl,h1,aR⟩;have cm:=hid (cI.out.trans aR);have dJ:=hid (aR.2 _ _ _ dW.out ai dH);have CG:w1.cell? ⟨w.heap.size,0,none⟩=some (.int .i64 5):=cJ;have lF:w1.cell? ⟨w.heap.size,1,none⟩=some (.string xt):=cJ;have lG:w1.cell? ⟨w.heap.size,2,none⟩=some (.slice (some ⟨aq,aU,none⟩) xl xc):=cJ;have lH:w.heap.size<w1.heap.size:=(Array.getElem?_eq_some_iff.1 dJ.out).1;have je:=(h1.below.cell (p:=⟨aq,_,none⟩) LK.out.1).trans ij.out;have rC:aq<w1.heap.size:=Nat.lt_of_lt_of_le LK.out.1 h1.below.size;have dG:=hid (Mw h1 ⟨#[102,117,110,99,116,105,111,110,32]⟩ xt bg);clear h1 aR cR cI dW rB dI;go_wp2_with (go_at_call 44;with_reducible refine(dG.out).mono ?_);rintro e w2 ⟨rfl,h2,hk2⟩;have eD:=hid (cm.out.trans hk2);have fW:=hid (hk2.2 _ _ _ dJ.out ai dH);have Ij:w2.cell? ⟨w.heap.size,0,none⟩=some (.int .i64 5):=cg;have sW:w2.cell? ⟨w.heap.size,1,none⟩=some (.string xt):=cg;have tG:w2.cell? ⟨w.heap.size,2,none⟩=some (.slice (some ⟨aq,aU,none⟩) xl xc):=cg;have tH:w.heap.size<w2.heap.size:=(Array.getElem?_eq_some_iff.1 fW.out).1;have lC:=(h2.below.cell (p:=⟨aq,_,none⟩) LK.out.1).trans ij.out;have wq:aq<w2.heap.size:=Nat.lt_of_lt_of_le LK.out.1 h2.below.size;have eI:=hid (dm.out _ w2 h2 bg);clear h2 hk2 dG cm dJ lF lG lH je rC CG;go_wp2_with (go_at_call 147;with_reducible refine(eI.out).mono ?_);rintro e w3 ⟨rfl,h3,hk3⟩;have lJ:=hid (eD.out.trans hk3);have lI:=hid (hk3.2 _ _ _ fW.out ai dH);have QO:w3.cell? ⟨w.heap.size,0,none⟩=some (.int .i64 5):=ey;exact YS
 ):p:=h
theorem Iq (h:p:=by
 obtain⟨R,hR⟩:∃R,R=bP d++aQ ns E K S ns[m] d++(⟨#[10]⟩:ByteArray):=⟨_,rfl⟩;rw [←hR] at hsz ⊢
 first
 |(have:=VV;exact ad4)
 |(have:=VW;exact ad5)
 |(have:=VX;exact ad6)
 |(have:=V3;exact ad7)
 |(have:=V4;exact ad8)
 |(have:=V5;exact ad9)
 ):p:=h
theorem aea (h:p:=by
 have u2:u<(n:Int):=aa;clear hu Az hdu Hkm;go_wp2;go_region;go_wp2;have aeb:(if m+1<du+1 then du+1 else m+1)=max m du+1:=by split<;>omega
 have Gj:wrap64 (du+1)=du+1:=IntWalk.wrap64_in _ (by have:=Hdu.out;omega);rw [Gj,aeb,drew_grow];refine⟨⟨j+1,mS.set k (max m du+1),_,by omega,by go_num,by rw [List.map_set],max m du, ?_, ?_, ?_, ?_⟩, ?_⟩
 ·rw [qg.out,List.set_append_right _ _ (by rw [EH.out];exact Nat.le_refl _),EH.out];simp
 ·have:=Hdu.out;omega
 ·have:=Hdu.out;omega
 ·rw [←TC.out];exact ZO.out
 ·simp [intOf];omega
 ):p:=h
theorem aec (h:p:=by
 have u2:u<(n:Int)+1:=aa;clear hu Az hdu Hkm;go_wp2;go_region;go_wp2;have aeb:(if m<du then du else m)=max m du:=by split<;>omega
 rw [aeb,drew_grow];refine⟨⟨j+1,mS.set k (max m du),_,by omega,by go_num,by rw [List.map_set],max m du, ?_, ?_, ?_, ?_⟩, ?_⟩
 ·rw [qg.out,List.set_append_right _ _ (by rw [EH.out];exact Nat.le_refl _),EH.out];simp
 ·have:=Hdu.out;omega
 ·have:=Hdu.out;omega
 ·rw [←TC.out];exact ZO.out
 ·simp [intOf];omega
 ):p:=h
theorem ahz (h:p:=by
 have hr2:mS[u.toNat]?=some (ds.getD u.toNat 0):=by
  exact abX
 have hdu:0≤ds.getD u.toNat 0∧ds.getD u.toNat 0≤(k:Int):=by
  exact abU
 have Az:=Hkm.out m;rw [if_pos (by have:=Ik.out;omega)] at Az;generalize ds.getD u.toNat 0=du at*;have TC:=hid Az;have Hdu:=hid hdu;have u0:=hu.1;have u1:=hu.2
 first
 |(have:=Ww;exact aea)
 |(have:=Wz;exact aec)
 ):p:=h
theorem aed (h:p:=by
 go_wp2_with (go_at_call 148;refine(eI.out).mono ?_);exact FN
 ):p:=h
theorem aee (h:p:=by
 go_wp2_with (go_at_call 195;refine(eI.out).mono ?_);exact FN
 ):p:=h
theorem aef (h:p:=by
 go_wp2_with (go_at_call 195;with_reducible refine(eI.out).mono ?_);rintro e w3 ⟨rfl,h3,hk3⟩;have HF:=hid (And.intro h3 (HKw.out.trans hk3));clear h3 hk3 eI cm;go_wp2;refine⟨⟨i+1,by omega,by go_num,hid ⟨?_,HF.out.2⟩⟩,by simp [intOf];omega⟩;rw [sR.out,if_neg nR];exact DB
 ):p:=h
theorem acI (h:p:=by
 have Jc:(i:Int)≤0:=aa;rw [if_neg nR] at hz1;simp only [ByteArray.size_append] at hz1;have eI:=hid (wm.out _ wr H1.out (by rw [ByteArray.size_append];omega));clear H1 wm
 first
 |(have:=UN;exact aed)
 |(have:=UQ;exact aee)
 |(have:=V6;exact aef)
 ):p:=h
theorem cN (h:p:=by repeat (first|exact Below.refl _ _|refine bG ?_ _|refine bI ?_ _ _|refine bA ?_ _|refine bD ?_|refine bN ?_ _)):p:=h
theorem aa (h:p:=by omega):p:=h
theorem bg (h:p:=by first|omega|(simp only [ByteArray.size_append];omega)):p:=h
theorem fH (h:p:=by repeat (first|exact Below.refl _ _|refine bN ?_ _|refine bD ?_|refine bG ?_ _|refine bI ?_ _ _|refine bA ?_ _)):p:=h
theorem dX (h:p:=by repeat (first|exact Below.refl _ _|refine bG ?_ _|refine bI ?_ _ _|refine bA ?_ _)):p:=h
theorem ah (h:p:=by kernel_rfl):p:=h
theorem cJ (h:p:=by simp [World.cell?,dJ.out]):p:=h
theorem ai (h:p:=by decide):p:=h
theorem cD (h:p:=by simp [World.cell?,h2]):p:=h
theorem qj (h:p:=by repeat (first|exact Below.refl _ _|exact HX.out|refine bG ?_ _|refine bI ?_ _ _|refine bA ?_ _|refine bD ?_|refine bN ?_ _)):p:=h
theorem cg (h:p:=by simp [World.cell?,fW.out]):p:=h
theorem amh (h:p:=by rw [ByteArray.toList_eq];exact cx h (by decide)):p:=h
theorem rV (h:p:=by repeat (first|exact HB.out|refine bN ?_ _|refine bD ?_|refine bG ?_ _|refine bI ?_ _ _|refine bA ?_ _)):p:=h
theorem ey (h:p:=by simp [World.cell?,lI.out]):p:=h
theorem gX (h:p:=by simp [ByteArray.getElem_eq_getElem_data]):p:=h
theorem xz (h:p:=by repeat (first|exact Below.refl _ _|exact HB.out|refine bG ?_ _|refine bI ?_ _ _|refine bA ?_ _)):p:=h
theorem ak (h:p:=by simp):p:=h
theorem eT (h:p:=by rw [hR,aF,hk];rfl):p:=h
theorem mB (h:p:=by simp only [ByteArray.size_append];omega):p:=h
theorem cr (h:p:=by simp;omega):p:=h
theorem ew (h:p:=by decide+kernel):p:=h
theorem vq (h:p:=by have:=aj;simp only [ByteArray.size_append];omega):p:=h
theorem ami (h:p:=by rw [ByteArray.toList_eq];exact mU h (by decide)):p:=h
theorem xg (h:p:=by rw [dA hA (fun _=>rfl) (fun _=>rfl)];exact hR):p:=h
theorem FU (h:p:=by rw [aY (List.getElem?_eq_getElem hzl)] at AO;exact Nat.eq_of_beq_eq_true AO):p:=h
theorem kT (h:p:=by simp [World.cell?,fT.out]):p:=h
theorem lg (h:p:=by simp [World.cell?,BS.out]):p:=h
theorem B4 (h:p:=by rw [ByteArray.size_append,ByteArray.size_append,hz2];omega):p:=h
theorem jQ (h:p:=by simp [World.cell?,lD]):p:=h
theorem rY (h:p:=by rw [Lib.cell_of_heap hb];exact hc):p:=h
theorem kU (h:p:=by simp [World.cell?,hX]):p:=h
theorem amj (h:p:=by rw [hrow2,List.getElem?_append_right (by omega)];simp [qa]):p:=h
theorem ql (h:p:=by simp [World.cell?,zZ.out]):p:=h
theorem eL (h:p:=by assumption):p:=h
theorem mC (h:p:=by have:=Hq.out;omega):p:=h
theorem nW (h:p:=by rw [hR,aQ,hk];rfl):p:=h
theorem Kf (h:p:=by rw [List.getD,List.getElem?_eq_getElem oB];exact List.getElem_mem oB):p:=h
theorem sD (h:p:=by simp [World.cell?,kK.out]):p:=h
theorem nS (h:p:=by have:=HL.out;omega):p:=h
theorem jy (h:p:=by rw [h1];decide):p:=h
theorem jz (h:p:=by rw [h0];decide):p:=h
theorem Bj (h:p:=by have:=hA.second l1 l2;rwa [hm] at this):p:=h
theorem qi (h:p:=by simp [World.cell?,h4]):p:=h
theorem jk (h:p:=by simpa using ha):p:=h
theorem jZ (h:p:=by rw [h2];decide):p:=h
theorem uF (h:p:=by have:=(hq i hi).2;omega):p:=h
theorem kV (h:p:=by rw [h8];decide):p:=h
theorem kW (h:p:=by rw [h7];decide):p:=h
theorem kX (h:p:=by rw [h6];decide):p:=h
theorem kY (h:p:=by rw [h5];decide):p:=h
theorem kZ (h:p:=by rw [h4];decide):p:=h
theorem ld (h:p:=by rw [h3];decide):p:=h
theorem lf (h:p:=by rw [h9];decide):p:=h
theorem FD (h:p:=by rw [List.mem_zipIdx_iff_getElem?];exact ho):p:=h
theorem KZ (h:p:=by rw [Int.toNat_natCast];exact List.getElem?_eq_getElem hm):p:=h
theorem AW (h:p:=by rw [hdec,Nat.add_sub_cancel_left]):p:=h
theorem OP (h:p:=by rw [hz];exact aY (List.getElem?_eq_getElem hzl)):p:=h
theorem xu (h:p:=by rw [ho] at jB;exact jB):p:=h
theorem xZ (h:p:=by simp [World.cell?,Zi.out]):p:=h
theorem kO (h:p:=by simpa using h):p:=h
theorem lV (h:p:=by simpa using h2):p:=h
theorem LV (h:p:=by rw [List.getD,List.getElem?_eq_getElem aga];rfl):p:=h
theorem Kc (h:p:=by rw [hS1];exact fun w h=>ID z z0 z1 w h):p:=h
theorem mV (h:p:=by rw [z];omega):p:=h
theorem Mf (h:p:=by rw [hA k (by rw [l2.T k e5,Bool.true_or]),e1]):p:=h
theorem uB (h:p:=by unfold maxLen;omega):p:=h
theorem Nk (h:p:=by simp [List.getD,List.getElem?_eq_getElem zM]):p:=h
theorem ya (h:p:=by rw [hR,bW,hk];rfl):p:=h
theorem yb (h:p:=by simp [World.cell?,iE]):p:=h
theorem Fg (h:p:=by rw [ByteArray.size_extract];omega):p:=h
theorem xV (h:p:=by simp [World.cell?,h3]):p:=h
theorem xW (h:p:=by simp [World.cell?,h5]):p:=h
theorem Bb (h:p:=by have:=(hq 0 hl).2;omega):p:=h
theorem Nj (h:p:=by simp;have:=Hq.out;have:=Hr.out;omega):p:=h
theorem uj (h:p:=by simpa using h3):p:=h
end Go
