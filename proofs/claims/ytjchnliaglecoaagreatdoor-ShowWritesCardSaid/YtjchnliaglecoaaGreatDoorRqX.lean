/- A part of the proof. Conditions: none. -/
import Derived.Test.YtjchnliaglecoaaGreatDoorZz
import Derived.Test.YtjchnliaglecoaaGreatDoorSg0X
import Derived.Test.YtjchnliaglecoaaGreatDoorRxX
import Derived.Test.YtjchnliaglecoaaGreatDoorRs3X
import Derived.Test.YtjchnliaglecoaaGreatDoorRzbX
import Derived.Deep.QuietTactic
import Derived.BigQuiet
import Derived.Test.YtjchnliaglecoaaGreatDoorPg0
set_option linter.unusedVariables false
set_option linter.unusedSimpArgs false
set_option maxRecDepth 100000
set_option maxHeartbeats 8000000
namespace Go.Proofs.YtjchnliaglecoaaGreatDoor
open Go Go.RowKit Go.Nodes
section
variable {p:Option Addr} {c:Nat} {ns:List Nd} {W:World} (ht:Tr ns) (hN:aA W p ns)
include ht hN
theorem GP {E:Int→Nat→ByteArray} {K:Int→ByteArray} {S:Int→Nat→ByteArray} {N:Nat} (aJ:N≤ns.length) (hE:RE p c ns W E N) (hK:RK p c ns W K N) (hS:RS p c ns W S N) (m d:Nat) (W':World) (hb:Below W.heap.size W W') (bR:m≤N) (hm:m<ns.length) (hd:(d:Int)+m≤2000) (hsz:(aF ns E K S ns[m] d).size≤1000000000):
  Calls Tryz.prog 150 #[.slice p ns.length c,.int .i64 (m:Int),.int .i64 (d:Int)] W' fun e w'=>e=.returned (.string (aF ns E K S ns[m] d))∧Below W'.heap.size W' w':=by
 have zq:=ht;clear zq;have zq:=hN;clear zq
 by_cases k13:ns[m].kind=13
 ·exact Lc ht hN aJ hE m d W' hb bR hm hd k13 hsz
 by_cases k16:ns[m].kind=16
 ·exact Ld ht hN aJ hE m d W' hb bR hm hd k16 hsz
 by_cases k18:ns[m].kind=18
 ·exact Lf ht hN aJ hE m d W' hb bR hm hd k18 hsz
 by_cases k19:ns[m].kind=19
 ·exact Lg ht hN aJ hE m d W' hb bR hm hd k19 hsz
 by_cases k20:ns[m].kind=20
 ·exact Lh ht hN aJ hE m d W' hb bR hm hd k20 hsz
 by_cases k21:ns[m].kind=21
 ·exact Li ht hN aJ hE m d W' hb bR hm hd k21 hsz
 by_cases k22:ns[m].kind=22
 ·exact Lj ht hN aJ hE hK hS m d W' hb bR hm hd k22 hsz
 by_cases k24:ns[m].kind=24
 ·exact Ll ht hN aJ hE m d W' hb bR hm hd k24 hsz
 by_cases k25:ns[m].kind=25
 ·exact Lm ht hN aJ hE m d W' hb bR hm hd k25 hsz
 by_cases k26:ns[m].kind=26
 ·exact Ln ht hN aJ hE m d W' hb bR hm hd k26 hsz
 by_cases wQ:ns[m].kind=27
 ·exact Lp ht hN aJ hE m d W' hb bR hm hd wQ hsz
 by_cases Xn:ns[m].kind=28
 ·exact Lr ht hN aJ hE m d W' hb bR hm hd Xn hsz
 by_cases Xm:ns[m].kind=29
 ·exact Ls ht hN aJ hE m d W' hb bR hm hd Xm hsz
 by_cases Xl:ns[m].kind=30
 ·exact Lt ht hN aJ hE m d W' hb bR hm hd Xl hsz
 ·exact Dy ht hN aJ hE m d W' hb bR hm (by simp [k13,k16,k18,k19,k20,k21,k22,k24,k25,k26,wQ,Xn,Xm,Xl])
theorem GQ {K:Int→ByteArray} {N:Nat} (aJ:N≤ns.length) (hK:RK p c ns W K N) (m:Nat) (W':World) (hb:Below W.heap.size W W') (bR:m≤N) (hm:m<ns.length) (hsz:(bW ns K ns[m]).size≤1000000000):
  Calls Tryz.prog 201 #[.slice p ns.length c,.int .i64 (m:Int)] W' fun e w'=>e=.returned (.string (bW ns K ns[m]))∧Below W'.heap.size W' w':=by
 have zq:=ht;clear zq;have zq:=hN;clear zq
 by_cases k32:ns[m].kind=32
 ·exact Lu ht hN aJ hK m W' hb bR hm k32 hsz
 by_cases k34:ns[m].kind=34
 ·exact Lv ht hN aJ hK m W' hb bR hm k34 hsz
 by_cases k35:ns[m].kind=35
 ·exact Lx ht hN aJ hK m W' hb bR hm k35 hsz
 by_cases yU:ns[m].kind=36
 ·exact Lz ht hN aJ hK m W' hb bR hm yU hsz
 ·exact Dz ht hN aJ hK m W' hb bR hm (by simp [k32,k34,k35,yU])
theorem GR {E:Int→Nat→ByteArray} {K:Int→ByteArray} {S:Int→Nat→ByteArray} {N:Nat} (aJ:N≤ns.length) (hE:RE p c ns W E N) (hK:RK p c ns W K N) (hS:RS p c ns W S N) (m d:Nat) (W':World) (hb:Below W.heap.size W W') (bR:m≤N) (hm:m<ns.length) (hd:(d:Int)+m≤2000) (hsz:(aQ ns E K S ns[m] d).size≤1000000000):
  Calls Tryz.prog 97 #[.slice p ns.length c,.int .i64 (m:Int),.int .i64 (d:Int)] W' fun e w'=>e=.returned (.string (aQ ns E K S ns[m] d))∧Below W'.heap.size W' w':=by
 have zq:=ht;clear zq;have zq:=hN;clear zq
 by_cases k4:ns[m].kind=4
 ·exact RA ht hN aJ hE hK hS m d W' hb bR hm hd k4 hsz
 by_cases k5:ns[m].kind=5
 ·exact RB ht hN aJ hE hK hS m d W' hb bR hm hd k5 hsz
 by_cases k6:ns[m].kind=6
 ·exact RD ht hN aJ hE hK hS m d W' hb bR hm hd k6 hsz
 by_cases k7:ns[m].kind=7
 ·exact RF ht hN aJ hE hK hS m d W' hb bR hm hd k7 hsz
 by_cases k8:ns[m].kind=8
 ·exact RG ht hN aJ hE hK hS m d W' hb bR hm hd k8 hsz
 by_cases k9:ns[m].kind=9
 ·exact RH ht hN aJ hE hK hS m d W' hb bR hm hd k9 hsz
 by_cases k10:ns[m].kind=10
 ·exact LA ht hN aJ hE hK hS m d W' hb bR hm hd k10 hsz
 ·exact DA ht hN aJ m d W' hb bR hm (by simp [k4,k5,k6,k7,k8,k9,k10])
theorem af0:∀f:Nat,RE p c ns W (dz ns f).1 (min f ns.length)∧RK p c ns W (dz ns f).2.1 (min f ns.length)∧RS p c ns W (dz ns f).2.2 (min f ns.length)
 |0=>⟨fun k d W' _ h0 h1=>by simp at h1;omega,fun k W' _ h0 h1=>by simp at h1;omega,fun k d W' _ h0 h1=>by simp at h1;omega⟩
 |f+1=>by
  obtain⟨h1,h2,h3⟩:=af0 f;have hle:min f ns.length≤ns.length:=Nat.min_le_right _ _;refine⟨fun k d W' hb h0 hk hd hsz=>?_,fun k W' hb h0 hk hsz=>?_,fun k d W' hb h0 hk hd hsz=>?_⟩
  all_goals
   obtain⟨m,rfl⟩:∃m:Nat,k=m:=⟨k.toNat,by omega⟩;have hm:m<ns.length:=aa;have bR:m≤min f ns.length:=aa
  ·have e:(dz ns (f+1)).1 (m:Int) d=aF ns (dz ns f).1 (dz ns f).2.1 (dz ns f).2.2 ns[m] d:=by
    exact KL
   rw [e] at hsz ⊢;exact GP ht hN hle h1 h2 h3 m d W' hb bR hm hd hsz
  ·have e:(dz ns (f+1)).2.1 (m:Int)=bW ns (dz ns f).2.1 ns[m]:=by
    exact KM
   rw [e] at hsz ⊢;exact GQ ht hN hle h2 m W' hb bR hm hsz
  ·have e:(dz ns (f+1)).2.2 (m:Int) d=aQ ns (dz ns f).1 (dz ns f).2.1 (dz ns f).2.2 ns[m] d:=by
    exact KN
   rw [e] at hsz ⊢;exact GR ht hN hle h1 h2 h3 m d W' hb bR hm hd hsz
end
end Go.Proofs.YtjchnliaglecoaaGreatDoor
/- A part of the proof. Conditions: none. -/
set_option maxRecDepth 100000
set_option maxHeartbeats 8000000
namespace Go.Proofs.YtjchnliaglecoaaGreatDoor
open Go Go.RowKit Go.Nodes
theorem Rv (p:Option Addr) (c:Nat) (ns:List Nd) (W W':World) (hs:Small ns) (Dq:iN ns) (h4:C1 ns) (hN:aA W p ns) (hl0:cu W) (hb:Below W.heap.size W W'):
  Calls Tryz.prog 22 #[.slice p ns.length c] W' fun e w'=>e=.returned (.tuple #[.string (gh ns),.int .i64 (bF ns).2])∧Below W'.heap.size W' w':=by
 have hC:=hid (Dr W' p c ns hs Dq (jl hb hN) (hl0.later hb));by_cases he:(bF ns).2=0
 ·have ht:=Fc he h4 Dq;obtain⟨L1,n1,hL,hk,hn,hpt,hch⟩:=Fe he h4 Dq;obtain⟨hz1,hz2⟩:=xd he h4 Dq hL hn;have hlt:L1<ns.length:=aa;obtain⟨b,o,hp,KO,c0,c1,c2,c3⟩:=bL hN hb hlt;obtain⟨_,_,hRS⟩:=af0 (c:=c) ht hN ns.length;rw [Nat.min_self] at hRS;have hq:=ku ht hlt (show n1<ns[L1].kids.length by omega);have hB:=hid (fun w (hb2:Below W.heap.size W w)=>show Calls Tryz.prog 49 #[.slice p ns.length c,.int .i64 (ns[L1].kids.getD n1 0),.int .i64 0] w fun e w'=>e=.returned (.string (aL ns (dz ns ns.length).2.2 (ns[L1].kids.getD n1 0) 0))∧Below w.heap.size w w' from mg ht hN (Nat.le_refl _) hRS (ns[L1].kids.getD n1 0) 0 w hb2 hq.1 aa aa (by have:=h4.1;omega) aa);have hX:gh ns=bt (fun i=>eG ns (ns[L1].kids.getD i 0)) n1++aL ns (dz ns ns.length).2.2 (ns[L1].kids.getD n1 0) 0:=by
   exact KP
  have jC:∀i (hi:i<ns[L1].kids.length),∃b o,ns[L1].kp=some ⟨b,o,none⟩∧b<W'.heap.size∧W'.cell? ⟨b,o+i,none⟩=some (.int .i64 (ns[L1].kids.getD i 0)):=fun i hi=>cC hN hb hlt hi
  obtain⟨bk,ok,fO,fu,uD⟩:=jC n1 aa;have iz:∀i,i<n1→∃z:Nat,ns[L1].kids.getD i 0=(z:Int)∧W'.cell? ⟨bk,ok+i,none⟩=some (.int .i64 (z:Int))∧(z:Int)<(ns.length:Int)∧W'.cell? ⟨b,o+z*4+1,none⟩=some (.string (eY ns (z:Int)))∧(2:Int)≤((eY ns (z:Int)).size:Int)∧(eY ns (z:Int)).size≤4000:=fun i hi=>by
   obtain⟨z,c0',m0,hz,hzl,e1,_⟩:=hch i hi;obtain⟨b2,o2,h1,_,h3⟩:=jC i aa;rw [fO] at h1;cases h1;rw [hz] at h3;obtain⟨b3,o3,Rw,_,_,g1,_,_⟩:=bL hN hb hzl;rw [hp] at Rw;cases Rw;have h2:=(Ff _ c0' m0 e1).2.2;exact⟨z,hz,h3,by omega,by rw [g1,eY,Int.toNat_natCast,List.getElem?_eq_getElem hzl],by omega,lS ht _⟩
  have mh:=hid iz;have HZ:=hid hz1;have HX:=hid hX;have HB:=hid hb;have ai6:(n1:Int)≤10000:=by have:=(ht.few.2 ns[L1] (List.getElem_mem hlt)).1;omega
  have ai7:(L1:Int)≤1000:=by have:=h4.1;omega
  have aX:=Dq ns[L1] (List.getElem_mem hlt);obtain⟨kc,mj⟩:∃kc,ns[L1].aG=kc:=⟨_,rfl⟩;have A7:(n1:Int)+1≤(kc:Int):=aa;have KQ:¬(kc:Int)=0:=aa;have KR:¬kc=0:=aa;have hA:(L1:Int)<(L1:Int)+1:=aa;have Av:(n1:Int)<(n1:Int)+1:=aa;rw [fO,hn,mj] at c2;rw [he] at hC ⊢;clear jC iz hz1 hb hX hch hpt hs Dq h4 hN hl0 ht hRS hq hk hn he aX mj fO;generalize XU:aL ns (dz ns ns.length).2.2 (ns[L1].kids.getD n1 0) 0=t2 at*;clear XU;generalize ns[L1].kids.getD n1 0=ka at*;generalize ns[L1]=x at*;obtain⟨xk,xt,xp,xc,aK,aP⟩:=x;simp only at c0 c1 c2 c3 mh HZ HX hz2;clear hlt;generalize (bF ns).1=c9 at*;subst hp;rw [hL] at hC hB mh ⊢;clear hL;go_enter Tryz.func22,Tryz.ntmps22;go_wp2_with (go_at_call 27;refine(hC.out).mono ?_;rintro e w1 ⟨rfl,hb1⟩;obtain⟨G,rfl⟩:=ay hb1;clear hb1);obtain⟨wz,cV⟩:∃wz,wz=(grow W' G).alloc (.cells #[.int .i64 xk,.string xt,.slice (some ⟨bk,ok,none⟩) (n1+1) kc,.int .i64 aP] 56):=⟨_,rfl⟩;have dh:=hid (show Below W'.heap.size W' wz by rw [cV];exact bA (bG (Below.refl _ _) _) _);have HXz:=hid (show wz.heap[W'.heap.size+G.size]?=some (.cells #[.int .i64 xk,.string xt,.slice (some ⟨bk,ok,none⟩) (n1+1) kc,.int .i64 aP] 56 (0,0)) by
   rw [cV];have:=heap_alloc_new (grow W' G) (.cells #[.int .i64 xk,.string xt,.slice (some ⟨bk,ok,none⟩) (n1+1) kc,.int .i64 aP] 56);simpa using this)
  rw [←cV];clear cV;generalize W'.heap.size+G.size=X at*;go_loopw [7,33] (fun sv iv wr=>∃i:Nat,i≤n1∧sv=.string (bt (fun i=>eG ns (aK.getD i 0)) i)∧iv=.int .i64 (i:Int)∧Hid (Below wz.heap.size wz wr)) (fun _ iv _=>n1 - (intOf iv).toNat)
  case atStart=>exact⟨0,Nat.zero_le _,rfl,rfl,hid (Below.refl _ _)⟩
  case round=>
   obtain⟨i,hi,rfl,rfl,hst⟩:=hrel;have pz:Below W'.heap.size W' wr:=dh.out.trans (hst.out.mono dh.out.size);by_cases di:i<n1
   ·obtain⟨z,hz,k1,k2,k3,k4,k5⟩:=mh.out i di;have E8:(i:Int)<(n1:Int):=aa;have e1:=(pz.cell (p:=⟨bk,_,none⟩) fu).trans k1;have l1:bk<wr.heap.size:=Nat.lt_of_lt_of_le fu pz.size;have e2:=(pz.cell (p:=⟨b,_,none⟩) KO).trans k3;have l2:b<wr.heap.size:=Nat.lt_of_lt_of_le KO pz.size;have hz1:=HZ.out (i+1) di;have hstep:bt (fun i=>eG ns (aK.getD i 0)) (i+1)=bt (fun i=>eG ns (aK.getD i 0)) i++eG ns (z:Int):=by rw [←hz];rfl
    rw [hstep,ByteArray.size_append] at hz1;have HM:=hid (fun w=>KS ((eY ns (z:Int)).extract 2 (eY ns (z:Int)).size) w);have hms:=nc ((eY ns (z:Int)).extract 2 (eY ns (z:Int)).size);have rN:((eY ns (z:Int)).extract 0 1).size≤4000:=Fg;have Jb:((eY ns (z:Int)).extract 2 (eY ns (z:Int)).size).size≤4000:=Fg;have hct:eG ns (z:Int)=(⟨#[99,104,97,110,110,101,108,32]⟩:ByteArray)++(eY ns (z:Int)).extract 0 1++(⟨#[32,61,32]⟩:ByteArray)++gF ((eY ns (z:Int)).extract 2 (eY ns (z:Int)).size)++(⟨#[10]⟩:ByteArray):=rfl;have sR:=hid (hstep.trans (by rw [hct]));clear hstep hct mh HZ k1 k3 hz;generalize gF ((eY ns (z:Int)).extract 2 (eY ns (z:Int)).size)=mt at*;generalize eG ns (z:Int)=ch at*;generalize eY ns (z:Int)=zt at*;generalize bt (fun i=>eG ns (aK.getD i 0)) i=T at*;have wj:T.size≤40000000:=aa;have hmt:mt.size≤4020:=aa;have hz5:(1:Int)≤(zt.size:Int):=aa;clear hz1 hms hz2;go_wp2;go_quiet ((go_at_call 48;refine Calls.quiet_of_same (HM.out _)));go_wp2;refine⟨⟨i+1,by omega, ?_,by go_num,hid (hst.out.trans ?_)⟩,by simp [intOf];omega⟩
    ·rw [sR.out]
    ·exact(bN (Below.refl wr.heap.size wr) _).mono hst.out.size
   ·obtain rfl:i=n1:=by omega
    have lD:=(hst.out.block _ (Array.getElem?_eq_some_iff.1 HXz.out).1).trans HXz.out;have wk:wr.cell? ⟨X,2,none⟩=some (.slice (some ⟨bk,ok,none⟩) (i+1) kc):=jQ;have lX:X<wr.heap.size:=(Array.getElem?_eq_some_iff.1 lD).1;have e1:=(pz.cell (p:=⟨bk,_,none⟩) fu).trans uD;have l1:bk<wr.heap.size:=Nat.lt_of_lt_of_le fu pz.size;have HP:=hid (hB.out wr (HB.out.trans (pz.mono HB.out.size)));have HF:=hid pz;generalize hT:bt (fun i=>eG ns (aK.getD i 0)) i=T at*;have HT:=hid hT;clear hT HZ mh lD pz hst hB uD;have wj:T.size+t2.size≤40000000:=hz2;go_wp2_with (go_at_call 49;(with_reducible refine(HP.out).mono ?_);rintro e w2 ⟨rfl,hb2⟩);go_ret2;exact⟨by rw [HX.out];rfl,HF.out.trans (hb2.mono HF.out.size)⟩
 ·have hX:gh ns=⟨#[]⟩:=by unfold gh;rw [if_neg he]
  rw [hX];have hne:((bF ns).2 !=0)=true:=by rw [bne_iff_ne];exact he
  generalize (bF ns).2=e9 at*;generalize (bF ns).1=c9 at*;clear hX hs Dq h4 hN hl0 hb he;generalize ns.length=L at*;go_enter Tryz.func22,Tryz.ntmps22;go_wp2_with (go_at_call 27;refine(hC.out).mono ?_;rintro e w1 ⟨rfl,hb1⟩;obtain⟨G,rfl⟩:=ay hb1;clear hb1);go_ret2;exact A8
end Go.Proofs.YtjchnliaglecoaaGreatDoor