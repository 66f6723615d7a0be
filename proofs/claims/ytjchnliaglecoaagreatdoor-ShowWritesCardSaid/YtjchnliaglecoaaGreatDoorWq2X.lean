/- A part of the proof. Conditions: none. -/
import Derived.Test.YtjchnliaglecoaaGreatDoorZz
import Derived.Test.YtjchnliaglecoaaGreatDoorSg0X
import Derived.Test.YtjchnliaglecoaaGreatDoorWo2X
import Derived.Test.YtjchnliaglecoaaGreatDoorPg0
set_option linter.unusedVariables false
set_option linter.unusedSimpArgs false
set_option maxRecDepth 100000
set_option maxHeartbeats 8000000
namespace Go.Proofs.YtjchnliaglecoaaGreatDoor
open Go Go.RowKit Go.Nodes
section
variable {p:Option Addr} {c:Nat} {ns:List Nd} {W0:World} {B:Nat} (ht:Tr ns) (hN:aA W0 p ns)
include ht hN
theorem GC {E:Int→Nat→ByteArray} {K:Int→ByteArray} {S:Int→Nat→ByteArray} {N:Nat} (aJ:N≤ns.length) (hE:WE p c ns W0 B E N) (hK:WK p c ns W0 B K N) (hS:WS p c ns W0 B S N) (m d:Nat) (u:ByteArray) (w:World) (h:Wr W0 B (.slice p ns.length c) u (d:Int) w) (bR:m≤N) (hm:m<ns.length) (hd:(d:Int)+m≤2000) (hsz:u.size+(aF ns E K S ns[m] d).size≤1000000000):
  Calls Tryz.prog 148 #[.pointer (some ⟨B,0,none⟩),.int .i64 (m:Int)] w (aI W0 B (.slice p ns.length c) (u++aF ns E K S ns[m] d) (d:Int) w):=by
 have zq:=ht;clear zq;have zq:=hN;clear zq
 by_cases k13:ns[m].kind=13
 ·exact Kv ht hN aJ hE m d u w h bR hm hd k13 hsz
 by_cases k16:ns[m].kind=16
 ·exact Jz ht hN aJ hE m d u w h bR hm hd k16 hsz
 by_cases k18:ns[m].kind=18
 ·exact Kw ht hN aJ hE m d u w h bR hm hd k18 hsz
 by_cases k19:ns[m].kind=19
 ·exact Ky ht hN aJ hE m d u w h bR hm hd k19 hsz
 by_cases k20:ns[m].kind=20
 ·exact Kz ht hN aJ hE m d u w h bR hm hd k20 hsz
 by_cases k21:ns[m].kind=21
 ·exact KA ht hN aJ hE m d u w h bR hm hd k21 hsz
 by_cases k22:ns[m].kind=22
 ·exact Jy ht hN aJ hE hK hS m d u w h bR hm hd k22 hsz
 by_cases k24:ns[m].kind=24
 ·exact KB ht hN aJ hE m d u w h bR hm hd k24 hsz
 by_cases k25:ns[m].kind=25
 ·exact KC ht hN aJ hE m d u w h bR hm hd k25 hsz
 by_cases k26:ns[m].kind=26
 ·exact KD ht hN aJ hE m d u w h bR hm hd k26 hsz
 by_cases wQ:ns[m].kind=27
 ·exact JD ht hN aJ hE m d u w h bR hm hd wQ hsz
 by_cases Xn:ns[m].kind=28
 ·exact JB ht hN aJ hE m d u w h bR hm hd Xn hsz
 by_cases Xm:ns[m].kind=29
 ·exact JF ht hN aJ hE m d u w h bR hm hd Xm hsz
 by_cases Xl:ns[m].kind=30
 ·exact JH ht hN aJ hE m d u w h bR hm hd Xl hsz
 ·exact CO ht hN aJ m d u w h hm (by simp [k13,k16,k18,k19,k20,k21,k22,k24,k25,k26,wQ,Xn,Xm,Xl]) hsz
theorem GD {K:Int→ByteArray} {N:Nat} (aJ:N≤ns.length) (hK:WK p c ns W0 B K N) (m:Nat) (z:Int) (u:ByteArray) (w:World) (h:Wr W0 B (.slice p ns.length c) u z w) (bR:m≤N) (hm:m<ns.length) (hsz:u.size+(bW ns K ns[m]).size≤1000000000):
  Calls Tryz.prog 195 #[.pointer (some ⟨B,0,none⟩),.int .i64 (m:Int)] w (aI W0 B (.slice p ns.length c) (u++bW ns K ns[m]) z w):=by
 have zq:=ht;clear zq;have zq:=hN;clear zq
 by_cases k32:ns[m].kind=32
 ·exact KE ht hN aJ hK m z u w h bR hm k32 hsz
 by_cases k34:ns[m].kind=34
 ·exact KF ht hN aJ hK m z u w h bR hm k34 hsz
 by_cases k35:ns[m].kind=35
 ·exact JQ ht hN aJ hK m z u w h bR hm k35 hsz
 by_cases yU:ns[m].kind=36
 ·exact KG ht hN aJ hK m z u w h bR hm yU hsz
 ·exact Dn ht hN aJ m z u w h hm (by simp [k32,k34,k35,yU]) hsz
theorem GF {E:Int→Nat→ByteArray} {K:Int→ByteArray} {S:Int→Nat→ByteArray} {N:Nat} (aJ:N≤ns.length) (hE:WE p c ns W0 B E N) (hK:WK p c ns W0 B K N) (hS:WS p c ns W0 B S N) (m d:Nat) (u:ByteArray) (w:World) (h:Wr W0 B (.slice p ns.length c) u (d:Int) w) (bR:m≤N) (hm:m<ns.length) (hd:(d:Int)+m≤2000) (hsz:u.size+(bP d++aQ ns E K S ns[m] d++(⟨#[10]⟩:ByteArray)).size≤1000000000):
  Calls Tryz.prog 95 #[.pointer (some ⟨B,0,none⟩),.int .i64 (m:Int)] w (aI W0 B (.slice p ns.length c) (u++(bP d++aQ ns E K S ns[m] d++(⟨#[10]⟩:ByteArray))) (d:Int) w):=by
 have zq:=ht;clear zq;have zq:=hN;clear zq
 by_cases k4:ns[m].kind=4
 ·exact Rp ht hN aJ hE hK hS m d u w h bR hm hd k4 hsz
 by_cases k5:ns[m].kind=5
 ·exact Rq ht hN aJ hE hK hS m d u w h bR hm hd k5 hsz
 by_cases k6:ns[m].kind=6
 ·exact Rs ht hN aJ hE hK hS m d u w h bR hm hd k6 hsz
 by_cases k7:ns[m].kind=7
 ·exact Rt ht hN aJ hE hK hS m d u w h bR hm hd k7 hsz
 by_cases k9:ns[m].kind=9
 ·exact Ru ht hN aJ hE hK hS m d u w h bR hm hd k9 hsz
 by_cases k10:ns[m].kind=10
 ·exact KH ht hN aJ hE hK hS m d u w h bR hm hd k10 hsz
 by_cases k8:ns[m].kind=8
 ·by_cases k12:aB ns (ns[m].kids.getD 2 0)=12
  ·exact KI ht hN aJ hE hK hS m d u w h bR hm hd k8 k12 hsz
  ·exact KJ ht hN aJ hE hK hS m d u w h bR hm hd k8 k12 hsz
 ·exact Dp ht hN aJ m d u w h hm hd (by simp [k4,k5,k6,k7,k8,k9,k10]) hsz
theorem wall:∀f:Nat,WE p c ns W0 B (dz ns f).1 (min f ns.length)∧WK p c ns W0 B (dz ns f).2.1 (min f ns.length)∧WS p c ns W0 B (dz ns f).2.2 (min f ns.length)
 |0=>⟨fun k d u w _ h0 h1=>by simp at h1;omega,fun k z u w _ h0 h1=>by simp at h1;omega,fun k d u w _ h0 h1=>by simp at h1;omega⟩
 |f+1=>by
  obtain⟨h1,h2,h3⟩:=wall f;have hle:min f ns.length≤ns.length:=Nat.min_le_right _ _;refine⟨fun k d u w hw h0 hk hd hsz=>?_,fun k z u w hw h0 hk hsz=>?_,fun k d u w hw h0 hk hd hsz=>?_⟩
  all_goals
   obtain⟨m,rfl⟩:∃m:Nat,k=m:=⟨k.toNat,by omega⟩;have hm:m<ns.length:=aa;have bR:m≤min f ns.length:=aa
  ·have e:(dz ns (f+1)).1 (m:Int) d=aF ns (dz ns f).1 (dz ns f).2.1 (dz ns f).2.2 ns[m] d:=by
    exact KL
   rw [e] at hsz ⊢;exact GC ht hN hle h1 h2 h3 m d u w hw bR hm hd hsz
  ·have e:(dz ns (f+1)).2.1 (m:Int)=bW ns (dz ns f).2.1 ns[m]:=by
    exact KM
   rw [e] at hsz ⊢;exact GD ht hN hle h2 m z u w hw bR hm hsz
  ·have e:(dz ns (f+1)).2.2 (m:Int) d=aQ ns (dz ns f).1 (dz ns f).2.1 (dz ns f).2.2 ns[m] d:=by
    exact KN
   unfold eM at hsz ⊢;rw [e] at hsz ⊢;exact GF ht hN hle h1 h2 h3 m d u w hw bR hm hd hsz
end
end Go.Proofs.YtjchnliaglecoaaGreatDoor
/- A part of the proof. Conditions: none. -/
set_option maxRecDepth 100000
set_option maxHeartbeats 8000000
namespace Go.Proofs.YtjchnliaglecoaaGreatDoor
open Go Go.RowKit Go.Nodes Go.Am
theorem Cx {p:Option Addr} {c:Nat} {ns:List Nd} {W0:World} {B:Nat} (hN:aA W0 p ns) (m:Nat) (u:ByteArray) (w:World) (h:Wr W0 B (.slice p ns.length c) u (-1) w) (hm:m<ns.length) (h0:ns[m].kids.length=0):
  Calls Tryz.prog 46 #[.pointer (some ⟨B,0,none⟩),.int .i64 (m:Int)] w fun e w'=>e=.returned (.tuple #[])∧w'=(w.setCell ⟨B,3,none⟩ (.int .i64 0)).setCell ⟨B,3,none⟩ (.int .i64 (-1)):=by
 obtain⟨b,o,hp,Eh,-,-,c20,-⟩:=bL hN (Below.refl _ _) hm;have hl:(m:Int)<(ns.length:Int):=aa;have cw:=h.cell0;have cz:=h.Bt;have fz:=h.thaw 3;have lw:=h.size;have pE:¬b=B:=by have:=h.lt;omega
 have c2:=(h.below.cell (p:=⟨b,_,none⟩) Eh).trans c20;have hlt:b<w.heap.size:=Nat.lt_of_lt_of_le Eh h.below.size;rw [h0] at c2;subst hp;clear hN h c20 Eh h0;generalize ns[m]=x at*;obtain⟨xk,xt,xp,xc,aK,aP⟩:=x;simp only at c2;clear hm;generalize ns.length=L at*;go_enter Tryz.func46,Tryz.ntmps46;go_wp2;go_loopw [22] (fun iv wr=>iv=.int .i64 0∧wr=w.setCell ⟨B,3,none⟩ (.int .i64 0)) (fun _ _=>0)
 case atStart=>exact⟨rfl,rfl⟩
 case round=>
  obtain⟨rfl,rfl⟩:=hrel;have cz2:(w.setCell ⟨B,3,none⟩ (.int .i64 0)).cell? ⟨B,3,none⟩=some (.int .i64 0):=by simp [go_sem,cz]
  exact Bo
theorem Gh {g:Nat→ByteArray} {n:Nat} (h:(bt g n).size=0):∀i,i<n→(g i).size=0:=by
 induction n with
 |zero=>intro i hi;omega
 |succ n ih=>
  unfold bt at h;rw [ByteArray.size_append] at h;intro i hi;by_cases e:i=n
  ·subst e;omega
  ·exact ih aa i aa
theorem Qx (W0 w:World) (S:Value) (hb:Below W0.heap.size W0 w):Wr W0 w.heap.size S ⟨#[]⟩ (-1) (w.alloc (.cells #[S,.pointer none,.slice none 0 0,.int .i64 (-1)] 79)):=
 .inl ⟨bA hb _,hb.size,⟨.slice none 0 0,heap_alloc_new _ _,rfl,.inl ⟨rfl,rfl⟩⟩⟩
theorem Qy (S:Int→Nat→ByteArray) (k:Int) (d:Nat):0<(eM S k d).size:=by
 unfold eM;rw [ByteArray.size_append];have e:(⟨#[10]⟩:ByteArray).size=1:=rfl;omega
theorem Qz (ns:List Nd) (k:Int):0<(eG ns k).size:=by
 unfold eG;rw [ByteArray.size_append];have e:(⟨#[10]⟩:ByteArray).size=1:=rfl;omega
theorem aek (p:Option Addr) (c:Nat) (ns:List Nd) (W:World) (hs:Small ns) (Dq:iN ns) (h4:C1 ns) (hN:aA W p ns) (hl0:cu W):
  Calls Tryz.prog 21 #[.slice p ns.length c] W fun e w'=>e=.returned (.tuple #[.string (gh ns),.int .i64 (bF ns).2])∧Below W.heap.size W w':=by
 have hC:=hid (Ic W p c ns hs Dq hN hl0);by_cases he:(bF ns).2=0
 ·have ht:=Fc he h4 Dq;obtain⟨L1,n1,hL,hk,hn,hpt,hch⟩:=Fe he h4 Dq;obtain⟨hz1,hz2⟩:=xd he h4 Dq hL hn;have hlt:L1<ns.length:=aa;obtain⟨b,o,hp,KO,c0,c1,c2,c3⟩:=bL hN (Below.refl _ _) hlt;have hq:=ku ht hlt (show n1<ns[L1].kids.length by omega);have hX:gh ns=bt (fun i=>eG ns (ns[L1].kids.getD i 0)) n1++aL ns (dz ns ns.length).2.2 (ns[L1].kids.getD n1 0) 0:=by
   exact KP
  have hBk:∀(B:Nat) (u:ByteArray) (w:World),Wr W B (.slice p ns.length c) u (-1) w→u.size+(aL ns (dz ns ns.length).2.2 (ns[L1].kids.getD n1 0) 0).size≤1000000000→
    Calls Tryz.prog 46 #[.pointer (some ⟨B,0,none⟩),.int .i64 (ns[L1].kids.getD n1 0)] w (aI W B (.slice p ns.length c) (u++aL ns (dz ns ns.length).2.2 (ns[L1].kids.getD n1 0) 0) (-1) w):=fun B u w hw hs=>by
   obtain⟨_,_,hWS⟩:=wall (c:=c) (B:=B) ht hN ns.length;rw [Nat.min_self] at hWS;exact nA ht hN (Nat.le_refl _) hWS (ns[L1].kids.getD n1 0) (-1) 0 ai u w hw hq.1 aa aa (by have:=h4.1;omega) hs
  have hBn:(aL ns (dz ns ns.length).2.2 (ns[L1].kids.getD n1 0) 0).size=0→∀(B:Nat) (u:ByteArray) (w:World),Wr W B (.slice p ns.length c) u (-1) w→
    Calls Tryz.prog 46 #[.pointer (some ⟨B,0,none⟩),.int .i64 (ns[L1].kids.getD n1 0)] w fun e w'=>e=.returned (.tuple #[])∧w'=(w.setCell ⟨B,3,none⟩ (.int .i64 0)).setCell ⟨B,3,none⟩ (.int .i64 (-1)):=fun h0 B u w hw=>by
   obtain⟨z,hz⟩:∃z:Nat,ns[L1].kids.getD n1 0=z:=⟨(ns[L1].kids.getD n1 0).toNat,by omega⟩;have hzl:z<ns.length:=aa;rw [hz] at h0 ⊢;refine Cx hN z u w hw hzl ?_;unfold aL at h0;rw [iH (by rw [Int.toNat_natCast];exact List.getElem?_eq_getElem hzl)] at h0;by_cases e:ns[z].kids.length=0
   ·exact e
   ·have:=Gh h0 0 aa;have h2:=Qy (dz ns ns.length).2.2 (ns[z].kids.getD 0 0) 0;omega
  have jC:∀i (hi:i<ns[L1].kids.length),∃b o,ns[L1].kp=some ⟨b,o,none⟩∧b<W.heap.size∧W.cell? ⟨b,o+i,none⟩=some (.int .i64 (ns[L1].kids.getD i 0)):=fun i hi=>cC hN (Below.refl _ _) hlt hi
  obtain⟨bk,ok,fO,fu,uD⟩:=jC n1 aa;have iz:∀i,i<n1→∃z:Nat,ns[L1].kids.getD i 0=(z:Int)∧W.cell? ⟨bk,ok+i,none⟩=some (.int .i64 (z:Int))∧(z:Int)<(ns.length:Int)∧W.cell? ⟨b,o+z*4+1,none⟩=some (.string (eY ns (z:Int)))∧
    (∀w,cu w→Calls Tryz.prog 43 #[.string (eY ns (z:Int)),.string ⟨#[32]⟩] w fun e w'=>e=.returned (.tuple #[.string ((eY ns (z:Int)).extract 0 1),.string ((eY ns (z:Int)).extract 2 (eY ns (z:Int)).size),.bool true])∧Below w.heap.size w w'):=fun i hi=>by
   obtain⟨z,c0',m0,hz,hzl,e1,e2⟩:=hch i hi;obtain⟨b2,o2,h1,_,h3⟩:=jC i aa;rw [fO] at h1;cases h1;rw [hz] at h3;obtain⟨b3,o3,Rw,_,_,g1,_,_⟩:=bL hN (Below.refl _ _) hzl;rw [hp] at Rw;cases Rw;obtain⟨x1,x2,x3⟩:=Ff _ c0' m0 e1;refine⟨z,hz,h3,by omega,by rw [g1,eY,Int.toNat_natCast,List.getElem?_eq_getElem hzl],fun w hl=>?_⟩;obtain⟨mm,A4⟩:=hl.max;have wj:=lS ht (z:Int);have:=Tryz.strings_Cut (eY ns (z:Int)) ⟨#[32]⟩ mm w aa A4;rw [e1,show(⟨#[32]⟩:ByteArray).data.toList=[32] from rfl,JR c0' m0 e2] at this;rw [x1,x2];exact this.mono fun e w' ⟨h1,n,h2⟩=>⟨h1,by rw [h2];exact bN (Below.refl _ _) n⟩
  have mh:=hid iz;have HZ:=hid hz1;have HX:=hid hX;have HBk:=hid hBk;have HBn:=hid hBn;have HL:=hid hl0;have ai6:(n1:Int)≤10000:=by have:=(ht.few.2 ns[L1] (List.getElem_mem hlt)).1;omega
  have ai7:(L1:Int)≤1000:=by have:=h4.1;omega
  have aX:=Dq ns[L1] (List.getElem_mem hlt);obtain⟨kc,mj⟩:∃kc,ns[L1].aG=kc:=⟨_,rfl⟩;have A7:(n1:Int)+1≤(kc:Int):=aa;have KQ:¬(kc:Int)=0:=aa;have KR:¬kc=0:=aa;have hA:(L1:Int)<(L1:Int)+1:=aa;have Av:(n1:Int)<(n1:Int)+1:=aa;have Wa:(bt (fun i=>eG ns (ns[L1].kids.getD i 0)) n1).size=0→n1=0:=fun h=>by
   by_cases e:n1=0
   ·exact e
   ·have:=Gh h 0 aa;have h2:=Qz ns (ns[L1].kids.getD 0 0);omega
  rw [fO,hn,mj] at c2;rw [he] at hC ⊢;clear jC iz hz1 hX hch hpt hs Dq h4 hN hl0 ht hq hk hn he aX mj fO hBk hBn;generalize XU:aL ns (dz ns ns.length).2.2 (ns[L1].kids.getD n1 0) 0=t2 at*;clear XU;generalize ns[L1].kids.getD n1 0=ka at*;generalize ns[L1]=x at*;obtain⟨xk,xt,xp,xc,aK,aP⟩:=x;simp only at c0 c1 c2 c3 mh HZ HX hz2 Wa;clear hlt;generalize (bF ns).1=c9 at*;subst hp;rw [hL] at hC HBk HBn mh ⊢;clear hL;go_enter Tryz.func21,Tryz.ntmps21;go_wp2_with (go_at_call 42;refine(hC.out).mono ?_;rintro e w1 ⟨rfl,hb1⟩;obtain⟨G,rfl⟩:=ay hb1;clear hb1);obtain⟨wz,cV⟩:∃wz,wz=(grow W G).alloc (.cells #[.slice (some ⟨b,o,none⟩) (L1+1) c,.pointer none,.slice none 0 0,.int .i64 (-1)] 79):=⟨_,rfl⟩;have dh:=hid (show Below W.heap.size W wz by rw [cV];exact bA (bG (Below.refl _ _) _) _);have hWz:Wr W (W.heap.size+G.size) (.slice (some ⟨b,o,none⟩) (L1+1) c) ⟨#[]⟩ (-1) wz:=by
   have:=Qx W (grow W G) (.slice (some ⟨b,o,none⟩) (L1+1) c) (bG (Below.refl _ _) _);rw [←cV,size_grow] at this;exact this
  have Xj:wz.heap[W.heap.size+G.size]?=some (.cells #[.slice (some ⟨b,o,none⟩) (L1+1) c,.pointer none,.slice none 0 0,.int .i64 (-1)] 79 (0,0)):=by
   rw [cV];have:=heap_alloc_new (grow W G) (.cells #[.slice (some ⟨b,o,none⟩) (L1+1) c,.pointer none,.slice none 0 0,.int .i64 (-1)] 79);simpa using this
  rw [←cV];clear cV;have hBW:W.heap.size≤W.heap.size+G.size:=aa;generalize W.heap.size+G.size=B at*;by_cases hzz:(bt (fun i=>eG ns (aK.getD i 0)) n1).size+t2.size=0
  ·obtain rfl:n1=0:=Wa aa;have hH:=HBn.out aa B ⟨#[]⟩ wz hWz;have ahV:=hid hH;have hlB:=hWz.size;have h2B:wz.cell? ⟨B,2,none⟩=some (.slice none 0 0):=by rw [Lib.cell_of_heap Xj];rfl
   have e1:=(dh.out.cell (p:=⟨bk,_,none⟩) fu).trans uD;have l1:bk<wz.heap.size:=Nat.lt_of_lt_of_le fu dh.out.size;obtain⟨wy,hwy⟩:∃wy,wy=(wz.setCell ⟨B,3,none⟩ (.int .i64 0)).setCell ⟨B,3,none⟩ (.int .i64 (-1)):=⟨_,rfl⟩;have hT1:=dD (o:=3) (v:=.int .i64 0) Xj;have XU:=dD (o:=3) (v:=.int .i64 (-1)) hT1.at_;rw [←hwy] at XU ahV;have h3B:wy.cell? ⟨B,2,none⟩=some (.slice none 0 0):=by rw [Lib.cell_of_heap XU.at_];rfl
   have HS:=hid (pS B 0 wy h3B);have HBy:=hid (iD (iD dh.out hT1 hBW) XU hBW);have hXe:gh ns=⟨#[]⟩:=by
    rw [HX.out];have ht2:t2=⟨#[]⟩:=by
     have h9:t2.size=0:=aa;cases t2 with
     |mk d=>exact congrArg ByteArray.mk (Array.eq_empty_of_size_eq_zero h9)
    rw [ht2,fJ];rfl
   have HXE:=hid hXe;rw [Nat.add_zero] at e1;clear hWz Xj hT1 XU hwy hH mh HZ HX HBk HBn hXe hz2 Wa uD hzz;go_loopw [39] (fun iv wr=>iv=.int .i64 0∧wr=wz) (fun _ _=>0)
   case atStart=>exact⟨rfl,rfl⟩
   case round=>
    obtain⟨rfl,rfl⟩:=hrel;go_wp2_with (go_at_call 46;(with_reducible refine(ahV.out).mono ?_));rintro e w2 ⟨rfl,hw2⟩;rw [hw2];clear hw2 w2;go_wp2_with (go_at_call 47;(with_reducible refine(HS.out).mono ?_));rintro e w2 ⟨rfl,hw2⟩;have HF:=hid (show Below W.heap.size W w2 by rw [hw2];exact bD HBy.out);clear hw2;go_wp2;go_ret2;exact⟨by rw [HXE.out];rfl,HF.out⟩
  ·have HW0:=hid hWz;have HZZ:=hid hzz;clear hWz Xj hBW HBn Wa hzz;go_loopw [39] (fun iv wr=>∃i:Nat,i≤n1∧iv=.int .i64 (i:Int)∧Hid (Wr W B (.slice (some ⟨b,o,none⟩) (L1+1) c) (bt (fun i=>eG ns (aK.getD i 0)) i) (-1) wr)) (fun iv _=>n1 - (intOf iv).toNat)
   case atStart=>exact⟨0,Nat.zero_le _,rfl,HW0⟩
   case round=>
    obtain⟨i,hi,rfl,hst⟩:=hrel;have h1:=hst.out;have pz:=h1.below;by_cases di:i<n1
    ·obtain⟨z,hz,k1,k2,k3,k4⟩:=mh.out i di;have E8:(i:Int)<(n1:Int):=aa;have e1:=(pz.cell (p:=⟨bk,_,none⟩) fu).trans k1;have l1:bk<wr.heap.size:=Nat.lt_of_lt_of_le fu pz.size;have e2:=(pz.cell (p:=⟨b,_,none⟩) KO).trans k3;have l2:b<wr.heap.size:=Nat.lt_of_lt_of_le KO pz.size;have hz1:=HZ.out (i+1) di;have hstep:bt (fun i=>eG ns (aK.getD i 0)) (i+1)=bt (fun i=>eG ns (aK.getD i 0)) i++eG ns (z:Int):=by rw [←hz];rfl
     rw [hstep,ByteArray.size_append] at hz1;have HCu:=hid (k4 wr (HL.out.later pz));have HM:=hid (fun w=>PB ((eY ns (z:Int)).extract 2 (eY ns (z:Int)).size) w);have hct:eG ns (z:Int)=(⟨#[99,104,97,110,110,101,108,32]⟩:ByteArray)++(eY ns (z:Int)).extract 0 1++(⟨#[32,61,32]⟩:ByteArray)++gF ((eY ns (z:Int)).extract 2 (eY ns (z:Int)).size)++(⟨#[10]⟩:ByteArray):=rfl;have H1:=hid h1;rw [hct] at hz1;have sR:=hid (hstep.trans (by rw [hct]));clear hstep hct mh HZ k1 k3 k4 hz h1 pz hst;generalize gF ((eY ns (z:Int)).extract 2 (eY ns (z:Int)).size)=mt at*;generalize (eY ns (z:Int)).extract 2 (eY ns (z:Int)).size=zm at*;generalize (eY ns (z:Int)).extract 0 1=zc at*;generalize eY ns (z:Int)=zt at*;generalize bt (fun i=>eG ns (aK.getD i 0)) i=T at*;clear hz2;go_wp2_with (go_at_call 43;(with_reducible refine(HCu.out).mono ?_));rintro e w2 ⟨rfl,hb2⟩;have h2:=H1.out.later hb2;have HP:=hid (ajv h2 ⟨#[99,104,97,110,110,101,108,32]⟩ zc ⟨#[32,61,32]⟩ mt ⟨#[10]⟩ aa);clear h2 hb2 H1 HCu e1 l1 e2 l2;go_wp2_with (first|(go_at_call 45;(with_reducible refine(HM.out _).mono ?_);rintro e w' ⟨rfl,hw⟩;rw [hw];clear hw w')|(go_at_call 44;(with_reducible refine(HP.out).mono ?_)));rintro e w3 ⟨rfl,h3,hk3⟩;have HF:=hid h3;clear h3 hk3 HP HM;go_wp2;refine⟨⟨i+1,by omega,by go_num,hid ?_⟩,by simp [intOf];omega⟩;rw [sR.out];exact HF.out
    ·obtain rfl:i=n1:=by omega
     have e1:=(pz.cell (p:=⟨bk,_,none⟩) fu).trans uD;have l1:bk<wr.heap.size:=Nat.lt_of_lt_of_le fu pz.size;have HP:=hid (HBk.out B _ wr h1 aa);have hsz:=hz2;rw [←ByteArray.size_append] at hsz;have hne:=HZZ.out;rw [←ByteArray.size_append,←HX.out] at hne;rw [←HX.out] at hsz HP;clear HZ mh pz hst h1 HBk uD hz2 HW0;generalize hRR:gh ns=R at*;have HRR:=hid hRR;clear hRR;go_wp2_with (go_at_call 46;(with_reducible refine(HP.out).mono ?_));rintro e w2 ⟨rfl,h2,hk2⟩;have hlB:=h2.size;have HS:=hid (IG h2 hne aa);clear h2 hk2 HP;go_wp2_with (go_at_call 47;(with_reducible refine(HS.out).mono ?_));rintro e w3 ⟨rfl,hb3⟩;have HF:=hid hb3;clear hb3 HS;go_wp2;go_ret2;exact⟨by rw [HRR.out];rfl,HF.out⟩
 ·have hX:gh ns=⟨#[]⟩:=by unfold gh;rw [if_neg he]
  rw [hX];have hne:((bF ns).2 !=0)=true:=by rw [bne_iff_ne];exact he
  generalize (bF ns).2=e9 at*;generalize (bF ns).1=c9 at*;clear hX hs Dq h4 hN hl0 he;generalize ns.length=L at*;go_enter Tryz.func21,Tryz.ntmps21;go_wp2_with (go_at_call 42;refine(hC.out).mono ?_;rintro e w1 ⟨rfl,hb1⟩;obtain⟨G,rfl⟩:=ay hb1;clear hb1);go_ret2;exact A8
end Go.Proofs.YtjchnliaglecoaaGreatDoor