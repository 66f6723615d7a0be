/- A part of the proof. Conditions: none. -/
import Derived.Deep.RegionHeld3
import Derived.Test.YtjchnliaglecoaaGreatDoorZz
import Derived.Test.YtjchnliaglecoaaGreatDoorRxX
import Derived.Test.YtjchnliaglecoaaGreatDoorRzbX
import Derived.StillTailTactics
import Derived.Test.YtjchnliaglecoaaGreatDoorDv
import Derived.BigRegion
set_option linter.unusedVariables false
set_option linter.unusedSimpArgs false
set_option maxRecDepth 100000
set_option maxHeartbeats 8000000
namespace Go.Proofs.YtjchnliaglecoaaGreatDoor
open Go Go.RowKit Go.Nodes Go.Am
section
variable {p:Option Addr} {c:Nat} {ns:List Nd} {W0:World} {B:Nat} (ht:Tr ns) (hN:aA W0 p ns) {E:Int→Nat→ByteArray} {K:Int→ByteArray} {S:Int→Nat→ByteArray} {N:Nat} (aJ:N≤ns.length)
include hN aJ
theorem uK (hK:WK p c ns W0 B K N) (k:Int) (z:Int) (u:ByteArray) (w:World) (h:Wr W0 B (.slice p ns.length c) u z w) (h0:0≤k) (h1:k<N) (hsz:u.size+(bO ns K k).size≤1000000000):
  Calls Tryz.prog 145 #[.pointer (some ⟨B,0,none⟩),.int .i64 k] w (aI W0 B (.slice p ns.length c) (u++(bO ns K k)) z w):=by
 have zq:=hN;clear zq;have zq:=aJ;clear zq
 have LI:=trivial;exact E7
theorem qP (hE:WE p c ns W0 B E N) (k:Int) (sg:ByteArray) (d:Nat) (u:ByteArray) (w:World) (h:Wr W0 B (.slice p ns.length c) u (d:Int) w) (h0:0≤k) (h1:k<N) (hd:(d:Int)+k≤2000) (hsz:u.size+(if aB ns k=12 then⟨#[]⟩ else sg++E k d).size≤1000000000):
  Calls Tryz.prog 146 #[.pointer (some ⟨B,0,none⟩),.string sg,.int .i64 k] w (aI W0 B (.slice p ns.length c) (u++(if aB ns k=12 then⟨#[]⟩ else sg++E k d)) (d:Int) w):=by
 have zq:=hN;clear zq;have zq:=aJ;clear zq
 have LJ:=trivial;exact E7
include ht in
theorem zj (hE:WE p c ns W0 B E N) (m d:Nat) (op u:ByteArray) (w:World) (h:Wr W0 B (.slice p ns.length c) u (d:Int) w) (bR:m≤N) (hm:m<ns.length) (hd:(d:Int)+m≤2000) (h2:2≤ns[m].kids.length) (R:ByteArray) (hR:R=bB ns E (ns[m].kids.getD 0 0) (aH ns[m].kind ns[m].text.toList) d++(⟨#[32]⟩:ByteArray)++op++(⟨#[32]⟩:ByteArray)++bB ns E (ns[m].kids.getD 1 0) (aH ns[m].kind ns[m].text.toList+1) d) (hsz:u.size+R.size≤1000000000):
  Calls Tryz.prog 200 #[.pointer (some ⟨B,0,none⟩),.int .i64 (m:Int),.string op] w (aI W0 B (.slice p ns.length c) (u++R) (d:Int) w):=by
 have zq:=hN;clear zq;have zq:=aJ;clear zq;have zq:=ht;clear zq
 obtain⟨b,o,hp,hlt,-,-,c2,-⟩:=bL hN h.below hm;have bu:0<ns[m].kids.length:=aa;have gC:1<ns[m].kids.length:=aa;obtain⟨aq,aU,bf,lk0,dI⟩:=cC hN (Below.refl _ _) hm bu;obtain⟨bk1,ok1,fA,lk1,pN⟩:=cC hN (Below.refl _ _) hm gC;rw [bf] at fA;cases fA;have eA:=cE ht (List.getElem?_eq_getElem hm) bu;have iq:=cE ht (List.getElem?_eq_getElem hm) gC;have hl:(m:Int)<(ns.length:Int):=aa;have dY:(0:Int)<(ns[m].kids.length:Int):=aa;have mA:(1:Int)<(ns[m].kids.length:Int):=aa;have cw:=h.cell0;have lw:=h.size;obtain⟨aaO,aaP⟩:=pO ns[m].kind ns[m].text.toList;have hq:=hid (fun(w1:World) (h1:Wr W0 B (.slice p ns.length c) u (d:Int) w1)=>yA ht hN h1 m hm);have dm:=hid (fun(u:ByteArray) (w:World) (hw:Wr W0 B (.slice p ns.length c) u (d:Int) w) (hs:u.size+(bB ns E (ns[m].kids.getD 0 0) (aH ns[m].kind ns[m].text.toList) d).size≤1000000000)=>tJ ht hN aJ hE (ns[m].kids.getD 0 0) (aH ns[m].kind ns[m].text.toList) d u w hw eA.1 aa aa aa hs);have kj:=hid (fun(u:ByteArray) (w:World) (hw:Wr W0 B (.slice p ns.length c) u (d:Int) w) (hs:u.size+(bB ns E (ns[m].kids.getD 1 0) (aH ns[m].kind ns[m].text.toList+1) d).size≤1000000000)=>tJ ht hN aJ hE (ns[m].kids.getD 1 0) (aH ns[m].kind ns[m].text.toList+1) d u w hw iq.1 aa aa aa hs);have aj:=hsz;rw [hR] at aj;simp only [ByteArray.size_append] at aj;generalize bB ns E (ns[m].kids.getD 0 0) (aH ns[m].kind ns[m].text.toList) d=s0 at*;generalize bB ns E (ns[m].kids.getD 1 0) (aH ns[m].kind ns[m].text.toList+1) d=s1 at*;generalize aH ns[m].kind ns[m].text.toList=q at*;generalize ns[m].kids.getD 0 0=k0 at*;generalize ns[m].kids.getD 1 0=k1 at*;have HR:=hid hR;have H:=hid h;have HN:=hid (And.intro lk0 (And.intro dI pN));rw [bf] at c2;clear hE hR hN ht aJ hsz eA iq h bu gC h2 lk0 dI pN;generalize ns[m].kids.length=xl at*;generalize ns[m].aG=xc at*;clear bf lk1;subst hp;clear hm;generalize ns.length=L at*;go_enter Tryz.func200,Tryz.ntmps200;go_wp2;go_region_held3 (fun w'=>w'.cell? ⟨B,0,none⟩=some (.slice (some ⟨b,o,none⟩) L c)∧w'.cell? ⟨b,o+m*4+2,none⟩=some (.slice (some ⟨aq,aU,none⟩) xl xc)∧Wr W0 B (.slice (some ⟨b,o,none⟩) L c) u (d:Int) w')
  ((go_split_ands;(try refine⟨?_, ?_, ?_⟩)<;>first|assumption|exact H.out.later fH|(simp [go_sem];done)|(simp [go_sem, *];done)))
  (first|(go_at_call 237;go_split_ands;((with_reducible refine(hq.out _ eL).mono ?_));rintro e w' ⟨rfl,hb1⟩;obtain⟨G0,rfl⟩:=ay hb1;clear hb1))
 have pz:Below w.heap.size w (grow w G0):=bG (Below.refl _ _) _;have h1:=H.out.later pz;have cI:=hid (aC (B:=B) pz);have e0:=(h1.below.cell (p:=⟨aq,_,none⟩) HN.out.1).trans HN.out.2.1;have l0:aq<(grow w G0).heap.size:=Nat.lt_of_lt_of_le HN.out.1 h1.below.size;rw [Nat.add_zero] at e0;have cR:=hid (dm.out _ _ h1 aa);clear h1 pz c2 cw H hq hlt lw;generalize grow w G0=wy at*;go_wp2_with (go_at_call 238;with_reducible refine(cR.out).mono ?_);rintro e w1 ⟨rfl,h1,aR⟩;have cm:=hid (cI.out.trans aR);have dG:=hid (ajd h1 ⟨#[32]⟩ op ⟨#[32]⟩ mB);clear h1 aR cR cI e0 l0;go_wp2_with (go_at_call 44;with_reducible refine(dG.out).mono ?_);rintro e w2 ⟨rfl,h2,hk2⟩;have eD:=hid (cm.out.trans hk2);have e1:=(h2.below.cell (p:=⟨aq,_,none⟩) HN.out.1).trans HN.out.2.2;have l1:aq<w2.heap.size:=Nat.lt_of_lt_of_le HN.out.1 h2.below.size;have eI:=hid (kj.out _ w2 h2 mB);clear h2 hk2 dG cm;go_wp2_with (go_at_call 238;with_reducible refine(eI.out).mono ?_);rintro e w3 ⟨rfl,h3,hk3⟩;have HF:=hid (And.intro h3 (eD.out.trans hk3));clear h3 hk3 eI eD;go_wp2;go_end0;refine⟨rfl, ?_,HF.out.2⟩;rw [HR.out];exact DB
end
end Go.Proofs.YtjchnliaglecoaaGreatDoor
/- A part of the proof. Conditions: none. -/
set_option maxRecDepth 100000
set_option maxHeartbeats 8000000
namespace Go.Am
open Go Go.RowKit
def Hg (vals:List Value) (kb:Nat) (cs:Array Value) (NB:Nat):Nat→World→Value→Prop:=fun k w v=>cond (Nat.beq k kb) (∃U:Nat,v=.slice (some ⟨U,0,none⟩) cs.size cs.size∧w.heap[U]?=some (.cells cs 9 (0,0))∧NB≤U) (v=vals.getD k undef)
theorem oO {vals:List Value} {kb:Nat} {cs:Array Value} {NB:Nat}:∀(k:Nat) (w w':World) (v:Value),Below w.heap.size w w'→Hg vals kb cs NB k w v→Hg vals kb cs NB k w' v:=fun k w w' v hb h=>by
 unfold Hg at*;cases hk:Nat.beq k kb with
 |true=>
  rw [hk] at h;obtain⟨U,h1,h2,h3⟩:=h;exact⟨U,h1,(hb.block U (Array.getElem?_eq_some_iff.1 h2).1).trans h2,h3⟩
 |false=>rw [hk] at h;exact h
end Go.Am
namespace Go.Proofs.YtjchnliaglecoaaGreatDoor
open Go Go.RowKit Go.Nodes Go.Am
theorem My {W0 w:World} {B:Nat} {S:Value} {u:ByteArray} {z:Int} (h:Wr W0 B S u z w) (s:ByteArray) (U:Nat) (hU:w.heap[U]?=some (.cells #[.string s] 9 (0,0))) (S3:U≠B) (hlen:u.size+s.size≤1000000000):
  Calls Tryz.prog 44 #[.pointer (some ⟨B,0,none⟩),.slice (some ⟨U,0,none⟩) 1 1] w (aI W0 B S (u++s) z w):=by
 have e:bt (lA [s]) 1=s:=by show(⟨#[]⟩:ByteArray)++s=s;exact ju s
 have:=tA h [s] U 1 hU S3 ak (by show _+(bt (lA [s]) 1).size≤_;rw [e];exact hlen);rw [←e];exact this
theorem Bv {W0 w:World} {B:Nat} {S:Value} {u:ByteArray} {z:Int} (h:Wr W0 B S u z w) (s t:ByteArray) (U:Nat) (hU:w.heap[U]?=some (.cells #[.string s,.string t] 9 (0,0))) (S3:U≠B) (hlen:u.size+(s++t).size≤1000000000):
  Calls Tryz.prog 44 #[.pointer (some ⟨B,0,none⟩),.slice (some ⟨U,0,none⟩) 2 2] w (aI W0 B S (u++(s++t)) z w):=by
 have e:bt (lA [s,t]) 2=s++t:=by show(⟨#[]⟩:ByteArray)++s++t=s++t;rw [ju]
 have:=tA h [s,t] U 2 hU S3 ak (by show _+(bt (lA [s,t]) 2).size≤_;rw [e];exact hlen);rw [←e];exact this
section
variable {p:Option Addr} {c:Nat} {ns:List Nd} {W0:World} {B:Nat} (ht:Tr ns) (hN:aA W0 p ns) {E:Int→Nat→ByteArray} {K:Int→ByteArray} {S:Int→Nat→ByteArray} {N:Nat} (aJ:N≤ns.length)
include ht hN aJ
theorem abn (hK:WK p c ns W0 B K N) (zz:Nat) (z:Int) (bx:Nat) (u:ByteArray) (w:World) (sU:w.heap[bx]?=some (.cells #[.pointer (some ⟨B,0,none⟩)] 73 (0,0))) (pE:bx≠B) (h:Wr W0 B (.slice p ns.length c) u z w) (hzN:zz<N) (hzl:zz<ns.length) (h1:0<ns[zz].kids.length) (hsz:u.size+(eC ns K (zz:Int)).size≤1000000000):
  Calls Tryz.prog 197 #[.int .i64 (zz:Int),.pointer (some ⟨bx,0,none⟩)] w (aI W0 B (.slice p ns.length c) (u++eC ns K (zz:Int)) z w):=by
 have zq:=ht;clear zq;have zq:=hN;clear zq;have zq:=aJ;clear zq
 obtain⟨b,o,hp,Mz,-,-,-,-⟩:=bL hN (Below.refl _ _) hzl;obtain⟨bz,oz,d1,d2,d3,d4,d5,d6⟩:=tD ht hN (Below.refl _ _) hzl h1 hp;have hl:(zz:Int)<(ns.length:Int):=aa;have DF:(0:Int)<(ns[zz].kids.length:Int):=aa;unfold eC at hsz ⊢;have aj:=hsz;simp only [ByteArray.size_append] at aj;have hC:=hid (fun(u:ByteArray) (w:World) (hw:Wr W0 B (.slice p ns.length c) u z w) (hs:u.size+(bO ns K ((bp ns (zz:Int)).getD 0 0)).size≤1000000000)=>uK hN aJ hK ((bp ns (zz:Int)).getD 0 0) z u w hw d5 aa hs);generalize bO ns K ((bp ns (zz:Int)).getD 0 0)=s at*;generalize (bp ns (zz:Int)).getD 0 0=kz at*;generalize eY ns (zz:Int)=zt at*;generalize ns[zz].kids.length=zl at*;generalize ns[zz].aG=zc at*;have hkn:0<zl:=aa;have ajA:¬zl=0:=aa;have HD:=hid (And.intro Mz (And.intro d1 (And.intro d2 (And.intro d3 d4))));have H:=hid h;have HX:=hid sU;have hBl:=h.size;subst hp;clear hK hN ht aJ hsz h1 d1 d2 d3 d4 d5 d6 h sU Mz;clear hzl;generalize ns.length=L at*;go_enter Tryz.func197,Tryz.ntmps197;go_wp2;refine wp_region_any ah ?_;refine Am.eJ _ 10 rfl ah ?_;simp only [List.take_succ_cons,List.take_zero];refine Am.cq (Φ:=Am.Hg [.pointer (some ⟨B,0,none⟩),.pointer (some ⟨B,0,none⟩),.pointer (some ⟨B,0,none⟩),.pointer (some ⟨B,0,none⟩),.slice (some ⟨b,o,none⟩) L c,.int .i64 (zz:Int),.pointer (some ⟨b,o+zz*4,none⟩),.pointer (some ⟨b,o+zz*4+1,none⟩),.string zt,undef] 9 #[.string zt] w.heap.size) (w0:=w) ah ah Am.oO ?_ ?_ _ ((Below.refl _ _).drew)
 ·have MA:=trivial;exact Yh
 ·intro ca w1 hb hd hs bV cQ;have h3:ca.tmps.getD 3 undef=.pointer (some ⟨B,0,none⟩):=bV 0 _ 3 rfl rfl;obtain⟨U,fV,hU,hUW⟩:∃U:Nat,ca.tmps.getD 12 undef=.slice (some ⟨U,0,none⟩) 1 1∧w1.heap[U]?=some (.cells #[.string zt] 9 (0,0))∧w.heap.size≤U:=bV 9 _ 12 rfl rfl;have dV:=Am.dy hd hs cQ;simp only [List.foldl_cons,List.foldl_nil,h3,fV] at dV;obtain⟨yf,pW⟩:∃y:Nat→Value,∀t,ca.tmps.getD t undef=y t:=⟨_,fun _=>rfl⟩;simp only [pW] at dV;clear pW;subst dV;simp only [List.setIfInBounds_toArray,List.set_cons_succ,List.set_cons_zero];simp only [Am.jJ];clear hd hs bV cQ h3 fV;have S3:U≠B:=aa;have Yi:=H.out.later hb;have cR:=hid (My Yi zt U hU S3 aa);have cI:=hid (aC (B:=B) hb);have jV:=hid ((hb.block bx (Array.getElem?_eq_some_iff.1 HX.out).1).trans HX.out);clear Yi hb hU hUW HX H;generalize w1=w1 at*;go_wp2_with (go_at_call 44;with_reducible refine(cR.out).mono ?_);rintro e w2 ⟨rfl,h2,hk2⟩;have cm:=hid (cI.out.trans hk2);have fT:=hk2.2 _ _ _ jV.out ai pE;have cX:w2.cell? ⟨bx,0,none⟩=some (.pointer (some ⟨B,0,none⟩)):=by simp [World.cell?,fT]
  have lX:bx<w2.heap.size:=(Array.getElem?_eq_some_iff.1 fT).1;have cB:=h2.cell0;have lB:=h2.size;have cZ:=(h2.below.cell (p:=⟨b,_,none⟩) HD.out.1).trans HD.out.2.2.1;have lb:b<w2.heap.size:=Nat.lt_of_lt_of_le HD.out.1 h2.below.size;have cK:=(h2.below.cell (p:=⟨bz,_,none⟩) HD.out.2.2.2.1).trans HD.out.2.2.2.2;have lz:bz<w2.heap.size:=Nat.lt_of_lt_of_le HD.out.2.2.2.1 h2.below.size;have dG:=hid (hC.out _ _ (h2.later (Below.refl _ _).drew) mB);have eD:=hid (cm.out.trans (aC (B:=B) (Below.refl w2.heap.size w2).drew));clear h2 hk2 cm cI jV fT cR;go_wp2;go_still_tail 11,ah;go_wp2_with (go_at_call 145;with_reducible refine(dG.out).mono ?_);exact MB
theorem abo (hK:WK p c ns W0 B K N) (zz:Nat) (z:Int) (bx:Nat) (u:ByteArray) (w:World) (sU:w.heap[bx]?=some (.cells #[.pointer (some ⟨B,0,none⟩)] 73 (0,0))) (pE:bx≠B) (h:Wr W0 B (.slice p ns.length c) u z w) (hzN:zz<N) (hzl:zz<ns.length) (h1:0<ns[zz].kids.length) (hsz:u.size+(cO ns K (zz:Int)).size≤1000000000):
  Calls Tryz.prog 235 #[.int .i64 (zz:Int),.pointer (some ⟨bx,0,none⟩)] w (aI W0 B (.slice p ns.length c) (u++cO ns K (zz:Int)) z w):=by
 have zq:=ht;clear zq;have zq:=hN;clear zq;have zq:=aJ;clear zq
 obtain⟨b,o,hp,Mz,-,-,-,-⟩:=bL hN (Below.refl _ _) hzl;obtain⟨bz,oz,d1,d2,d3,d4,d5,d6⟩:=tD ht hN (Below.refl _ _) hzl h1 hp;have hl:(zz:Int)<(ns.length:Int):=aa;have DF:(0:Int)<(ns[zz].kids.length:Int):=aa;unfold cO at hsz ⊢;have aj:=hsz;simp only [ByteArray.size_append] at aj;have hC:=hid (fun(u:ByteArray) (w:World) (hw:Wr W0 B (.slice p ns.length c) u z w) (hs:u.size+(K ((bp ns (zz:Int)).getD 0 0)).size≤1000000000)=>hK ((bp ns (zz:Int)).getD 0 0) z u w hw d5 aa hs);generalize K ((bp ns (zz:Int)).getD 0 0)=s at*;generalize (bp ns (zz:Int)).getD 0 0=kz at*;generalize eY ns (zz:Int)=zt at*;generalize ns[zz].kids.length=zl at*;generalize ns[zz].aG=zc at*;have hkn:0<zl:=aa;have ajA:¬zl=0:=aa;have HD:=hid (And.intro Mz (And.intro d1 (And.intro d2 (And.intro d3 d4))));have H:=hid h;have HX:=hid sU;have hBl:=h.size;subst hp;clear hK hN ht aJ hsz h1 d1 d2 d3 d4 d5 d6 h sU Mz;clear hzl;generalize ns.length=L at*;go_enter Tryz.func235,Tryz.ntmps235;go_wp2;refine wp_region_any ah ?_;refine Am.eJ _ 10 rfl ah ?_;simp only [List.take_succ_cons,List.take_zero];refine Am.cq (Φ:=Am.Hg [.pointer (some ⟨B,0,none⟩),.pointer (some ⟨B,0,none⟩),.pointer (some ⟨B,0,none⟩),.pointer (some ⟨B,0,none⟩),.slice (some ⟨b,o,none⟩) L c,.int .i64 (zz:Int),.pointer (some ⟨b,o+zz*4,none⟩),.pointer (some ⟨b,o+zz*4+1,none⟩),.string zt,undef] 9 #[.string zt,.string ⟨#[58,32]⟩] w.heap.size) (w0:=w) ah ah Am.oO ?_ ?_ _ ((Below.refl _ _).drew)
 ·have MC:=trivial;exact Yh
 ·intro ca w1 hb hd hs bV cQ;have h3:ca.tmps.getD 3 undef=.pointer (some ⟨B,0,none⟩):=bV 0 _ 3 rfl rfl;obtain⟨U,fV,hU,hUW⟩:∃U:Nat,ca.tmps.getD 12 undef=.slice (some ⟨U,0,none⟩) 2 2∧w1.heap[U]?=some (.cells #[.string zt,.string ⟨#[58,32]⟩] 9 (0,0))∧w.heap.size≤U:=bV 9 _ 12 rfl rfl;have dV:=Am.dy hd hs cQ;simp only [List.foldl_cons,List.foldl_nil,h3,fV] at dV;obtain⟨yf,pW⟩:∃y:Nat→Value,∀t,ca.tmps.getD t undef=y t:=⟨_,fun _=>rfl⟩;simp only [pW] at dV;clear pW;subst dV;simp only [List.setIfInBounds_toArray,List.set_cons_succ,List.set_cons_zero];simp only [Am.jJ];clear hd hs bV cQ h3 fV;have S3:U≠B:=aa;have Yi:=H.out.later hb;have cR:=hid (Bv Yi zt ⟨#[58,32]⟩ U hU S3 mB);have cI:=hid (aC (B:=B) hb);have jV:=hid ((hb.block bx (Array.getElem?_eq_some_iff.1 HX.out).1).trans HX.out);clear Yi hb hU hUW HX H;generalize w1=w1 at*;go_wp2_with (go_at_call 44;with_reducible refine(cR.out).mono ?_);rintro e w2 ⟨rfl,h2,hk2⟩;have cm:=hid (cI.out.trans hk2);have fT:=hk2.2 _ _ _ jV.out ai pE;have cX:w2.cell? ⟨bx,0,none⟩=some (.pointer (some ⟨B,0,none⟩)):=by simp [World.cell?,fT]
  have lX:bx<w2.heap.size:=(Array.getElem?_eq_some_iff.1 fT).1;have cB:=h2.cell0;have lB:=h2.size;have cZ:=(h2.below.cell (p:=⟨b,_,none⟩) HD.out.1).trans HD.out.2.2.1;have lb:b<w2.heap.size:=Nat.lt_of_lt_of_le HD.out.1 h2.below.size;have cK:=(h2.below.cell (p:=⟨bz,_,none⟩) HD.out.2.2.2.1).trans HD.out.2.2.2.2;have lz:bz<w2.heap.size:=Nat.lt_of_lt_of_le HD.out.2.2.2.1 h2.below.size;have dG:=hid (hC.out _ _ (h2.later (Below.refl _ _).drew) mB);have eD:=hid (cm.out.trans (aC (B:=B) (Below.refl w2.heap.size w2).drew));clear h2 hk2 cm cI jV fT cR;go_wp2;go_still_tail 11,ah;go_wp2_with (go_at_call 195;with_reducible refine(dG.out).mono ?_);exact MB
end
end Go.Proofs.YtjchnliaglecoaaGreatDoor
/- A part of the proof. Conditions: none. -/
set_option maxRecDepth 100000
set_option maxHeartbeats 8000000
namespace Go.Proofs.YtjchnliaglecoaaGreatDoor
open Go Go.RowKit Go.Nodes Go.Am
section
variable {p:Option Addr} {c:Nat} {ns:List Nd} {W0:World} {B:Nat} (ht:Tr ns) (hN:aA W0 p ns) {E:Int→Nat→ByteArray} {K:Int→ByteArray} {S:Int→Nat→ByteArray} {N:Nat} (aJ:N≤ns.length)
include ht hN aJ
theorem JQ (hK:WK p c ns W0 B K N) (m:Nat) (z:Int) (u:ByteArray) (w:World) (h:Wr W0 B (.slice p ns.length c) u z w) (bR:m≤N) (hm:m<ns.length) (hk:ns[m].kind=35) (hsz:u.size+(bW ns K ns[m]).size≤1000000000):
  Calls Tryz.prog 195 #[.pointer (some ⟨B,0,none⟩),.int .i64 (m:Int)] w (aI W0 B (.slice p ns.length c) (u++bW ns K ns[m]) z w):=by
 have zq:=ht;clear zq;have zq:=hN;clear zq;have zq:=aJ;clear zq
 have Rb:=trivial;exact Rc
end
end Go.Proofs.YtjchnliaglecoaaGreatDoor
/- A part of the proof. Conditions: none. -/
set_option maxRecDepth 100000
set_option maxHeartbeats 8000000
namespace Go.Proofs.YtjchnliaglecoaaGreatDoor
open Go Go.RowKit Go.Nodes Go.Am
section
variable {p:Option Addr} {c:Nat} {ns:List Nd} {W0:World} {B:Nat} (ht:Tr ns) (hN:aA W0 p ns) {E:Int→Nat→ByteArray} {K:Int→ByteArray} {S:Int→Nat→ByteArray} {N:Nat} (aJ:N≤ns.length)
include ht hN aJ
theorem KE (hK:WK p c ns W0 B K N) (m:Nat) (z:Int) (u:ByteArray) (w:World) (h:Wr W0 B (.slice p ns.length c) u z w) (bR:m≤N) (hm:m<ns.length) (hk:ns[m].kind=32) (hsz:u.size+(bW ns K ns[m]).size≤1000000000):
  Calls Tryz.prog 195 #[.pointer (some ⟨B,0,none⟩),.int .i64 (m:Int)] w (aI W0 B (.slice p ns.length c) (u++bW ns K ns[m]) z w):=by
 have zq:=ht;clear zq;have zq:=hN;clear zq;have zq:=aJ;clear zq
 have Tm:=trivial;exact Rc
theorem KF (hK:WK p c ns W0 B K N) (m:Nat) (z:Int) (u:ByteArray) (w:World) (h:Wr W0 B (.slice p ns.length c) u z w) (bR:m≤N) (hm:m<ns.length) (hk:ns[m].kind=34) (hsz:u.size+(bW ns K ns[m]).size≤1000000000):
  Calls Tryz.prog 195 #[.pointer (some ⟨B,0,none⟩),.int .i64 (m:Int)] w (aI W0 B (.slice p ns.length c) (u++bW ns K ns[m]) z w):=by
 have zq:=ht;clear zq;have zq:=hN;clear zq;have zq:=aJ;clear zq
 have Tn:=trivial;exact Rc
theorem KG (hK:WK p c ns W0 B K N) (m:Nat) (z:Int) (u:ByteArray) (w:World) (h:Wr W0 B (.slice p ns.length c) u z w) (bR:m≤N) (hm:m<ns.length) (hk:ns[m].kind=36) (hsz:u.size+(bW ns K ns[m]).size≤1000000000):
  Calls Tryz.prog 195 #[.pointer (some ⟨B,0,none⟩),.int .i64 (m:Int)] w (aI W0 B (.slice p ns.length c) (u++bW ns K ns[m]) z w):=by
 have zq:=ht;clear zq;have zq:=hN;clear zq;have zq:=aJ;clear zq
 have Tp:=trivial;exact Rc
theorem Dn (m:Nat) (z:Int) (u:ByteArray) (w:World) (h:Wr W0 B (.slice p ns.length c) u z w) (hm:m<ns.length) (hk:ns[m].kind ∉ [32,34,35,36]) (hsz:u.size+(bW ns K ns[m]).size≤1000000000):
  Calls Tryz.prog 195 #[.pointer (some ⟨B,0,none⟩),.int .i64 (m:Int)] w (aI W0 B (.slice p ns.length c) (u++bW ns K ns[m]) z w):=by
 have zq:=ht;clear zq;have zq:=hN;clear zq;have zq:=aJ;clear zq
 obtain⟨b,o,hp,hlt,c0,c1,c2,c3⟩:=bL hN h.below hm;have hl:(m:Int)<(ns.length:Int):=aa;simp only [List.mem_cons,not_or,List.not_mem_nil,not_false_eq_true,and_true] at hk;obtain⟨n32,n34,n35,n36⟩:=hk;have hX:bW ns K ns[m]=ns[m].text:=by
  rw [bW];simp only [n32,n34,n35,n36,if_false]
 rw [hX] at hsz ⊢;have e32:(ns[m].kind==32)=false:=by simp [n32]
 have e34:(ns[m].kind==34)=false:=by simp [n34]
 have e35:(ns[m].kind==35)=false:=by simp [n35]
 have e36:(ns[m].kind==36)=false:=by simp [n36]
 have cw:=h.cell0;have lw:=h.size;have H:=hid h;clear hX hN ht aJ h n32 n34 n35 n36;generalize ns[m]=x at*;obtain⟨xk,xt,xp,xc,aK,aP⟩:=x;simp only at c0 c1 c2 c3 hsz e32 e34 e35 e36 ⊢;subst hp;clear hm;generalize ns.length=L at*;generalize aK.length=xl at*;have bQ:Below w.heap.size w ((w.alloc (.cells #[.pointer (some ⟨B,0,none⟩)] 73)).alloc (.cells #[.int .i64 xk,.string xt,.slice xp xl xc,.int .i64 aP] 56)):=bA (bA (Below.refl _ _) _) _;have h0:=H.out.later bQ;have cI:=hid (aC (B:=B) bQ);have jV:=hid (show((w.alloc (.cells #[.pointer (some ⟨B,0,none⟩)] 73)).alloc (.cells #[.int .i64 xk,.string xt,.slice xp xl xc,.int .i64 aP] 56)).heap[w.heap.size]?=some (.cells #[.pointer (some ⟨B,0,none⟩)] 73 (0,0)) from dO (heap_alloc_new _ _));have dW:=hid (show((w.alloc (.cells #[.pointer (some ⟨B,0,none⟩)] 73)).alloc (.cells #[.int .i64 xk,.string xt,.slice xp xl xc,.int .i64 aP] 56)).heap[w.heap.size+1]?=some (.cells #[.int .i64 xk,.string xt,.slice xp xl xc,.int .i64 aP] 56 (0,0)) by
  have:=heap_alloc_new (w.alloc (.cells #[.pointer (some ⟨B,0,none⟩)] 73)) (.cells #[.int .i64 xk,.string xt,.slice xp xl xc,.int .i64 aP] 56);simpa using this)
 have rq:w.heap.size≠B:=aa;have dH:w.heap.size+1≠B:=aa;have hP:=cW h0 xt hsz;rw [World.size_alloc,World.size_alloc] at hP;have cR:=hid hP;clear bQ h0 hP H;go_enter Tryz.func195,Tryz.ntmps195;go_wp2_with (go_at_call 44;with_reducible refine(cR.out).mono ?_);rintro e w1 ⟨rfl,h1,aR⟩;have cm:=hid (cI.out.trans aR);have fT:=hid (aR.2 _ _ _ jV.out ai rq);have dJ:=hid (aR.2 _ _ _ dW.out ai dH);have HF:=hid (And.intro h1 cm.out);clear h1 aR cR cm fT dJ;exact qD
end
end Go.Proofs.YtjchnliaglecoaaGreatDoor
/- A part of the proof. Conditions: none. -/
set_option maxRecDepth 100000
set_option maxHeartbeats 8000000
namespace Go.Proofs.YtjchnliaglecoaaGreatDoor
open Go Go.RowKit Go.Nodes Go.Am
section
variable {p:Option Addr} {c:Nat} {ns:List Nd} {W0:World} {B:Nat} (ht:Tr ns) (hN:aA W0 p ns) {E:Int→Nat→ByteArray} {K:Int→ByteArray} {S:Int→Nat→ByteArray} {N:Nat} (aJ:N≤ns.length)
include ht hN aJ
theorem nA (hS:WS p c ns W0 B S N) (k z:Int) (d:Nat) (hzd:z+1=(d:Int)) (u:ByteArray) (w:World) (h:Wr W0 B (.slice p ns.length c) u z w) (h0:0≤k) (h1:k≤N) (h2:k<ns.length) (hd:(d:Int)+k≤2000) (hsz:u.size+(aL ns S k d).size≤1000000000):
  Calls Tryz.prog 46 #[.pointer (some ⟨B,0,none⟩),.int .i64 k] w (aI W0 B (.slice p ns.length c) (u++aL ns S k d) z w):=by
 have zq:=ht;clear zq;have zq:=hN;clear zq;have zq:=aJ;clear zq
 obtain⟨m,rfl⟩:∃m:Nat,k=m:=⟨k.toNat,by omega⟩;have hm:m<ns.length:=aa;obtain⟨b,o,hp,Eh,-,-,c20,-⟩:=bL hN (Below.refl _ _) hm;have hl:(m:Int)<(ns.length:Int):=aa;have hka:bp ns (m:Int)=ns[m].kids:=iH KZ;have aT:=(ht.few.2 ns[m] (List.getElem_mem hm)).1;have Lb:(ns[m].kids.length:Int)≤10000:=aa;have hq:∀i,i<ns[m].kids.length→0≤ns[m].kids.getD i 0∧ns[m].kids.getD i 0<m:=fun i hi=>cE ht (List.getElem?_eq_getElem hm) hi
 have jC:∀i (hi:i<ns[m].kids.length),∃b o,ns[m].kp=some ⟨b,o,none⟩∧b<W0.heap.size∧W0.cell? ⟨b,o+i,none⟩=some (.int .i64 (ns[m].kids.getD i 0)):=fun i hi=>cC hN (Below.refl _ _) hm hi
 unfold aL at hsz ⊢;rw [hka] at hsz ⊢;have iC:∀i,i≤ns[m].kids.length→u.size+(bt (fun i=>eM S (ns[m].kids.getD i 0) d) i).size≤1000000000:=fun i hi=>Nat.le_trans (Nat.add_le_add_left (tB _ i _ hi) _) hsz
 have hC:∀i,i<ns[m].kids.length→∀(u:ByteArray) (w:World),Wr W0 B (.slice p ns.length c) u (d:Int) w→u.size+(eM S (ns[m].kids.getD i 0) d).size≤1000000000→Calls Tryz.prog 95 #[.pointer (some ⟨B,0,none⟩),.int .i64 (ns[m].kids.getD i 0)] w (aI W0 B (.slice p ns.length c) (u++eM S (ns[m].kids.getD i 0) d) (d:Int) w):=fun i hi u w hw hs=>
  hS _ d u w hw (hq i hi).1 uF uF hs
 obtain⟨hD,hKD⟩:=h.deep (d:Int);have anq:(d:Int) - 1=z:=aa;have cw:=h.cell0;have cz:=h.Bt;have fz:=h.thaw 3;have lw:=h.size;have pE:¬b=B:=by have:=h.lt;omega
 have c2:=(h.below.cell (p:=⟨b,_,none⟩) Eh).trans c20;have hlt:b<w.heap.size:=Nat.lt_of_lt_of_le Eh h.below.size;have HD:=hid hD;have HKD:=hid hKD;have HC:=hid hC;have HK:=hid jC;have HZ:=hid iC;subst hp;have hdz:(d:Int)≤2000:=aa;clear hC jC iC h hS hN ht hq aT hka hsz aJ h1 h2 hD hKD c20 Eh;generalize ns[m]=x at*;obtain⟨xk,xt,xp,xc,aK,aP⟩:=x;simp only at c2 HC HK HZ Lb ⊢;clear hm;generalize ns.length=L at*;go_enter Tryz.func46,Tryz.ntmps46;go_wp2;go_loopw [5,22] (fun sv iv wr=>∃i:Nat,i≤aK.length∧iv=.int .i64 (i:Int)∧Hid (Wr W0 B (.slice (some ⟨b,o,none⟩) L c) (u++bt (fun i=>eM S (aK.getD i 0) d) i) (d:Int) wr∧Kp B w wr)) (fun _ iv _=>aK.length - (intOf iv).toNat)
 case atStart=>exact⟨0,Nat.zero_le _,rfl,hid ⟨by rw [show bt (fun i=>eM S (aK.getD i 0) d) 0=(⟨#[]⟩:ByteArray) from rfl,fJ];exact HD.out,HKD.out⟩⟩
 case round=>
  obtain⟨i,hi,rfl,hst⟩:=hrel;by_cases di:i<aK.length
  ·obtain⟨bk,ok,rfl,fu,ND⟩:=HK.out i di;obtain⟨h1,aR⟩:=hst.out;have uH:bk<wr.heap.size:=Nat.lt_of_lt_of_le fu h1.below.size;have hcell:=(h1.below.cell (p:=⟨bk,_,none⟩) fu).trans ND;have E8:(i:Int)<(aK.length:Int):=aa;have hstep:bt (fun i=>eM S (aK.getD i 0) d) (i+1)=bt (fun i=>eM S (aK.getD i 0) d) i++eM S (aK.getD i 0) d:=rfl;have hz1:=HZ.out (i+1) di;rw [hstep] at hz1;have sR:=hid hstep;have cm:=hid aR;have HP:=hid (HC.out i di _ wr h1 (by rw [ByteArray.size_append] at hz1 ⊢;omega));clear hstep HC HK HZ ND h1 aR hst fu c2 cw cz fz HD HKD;generalize bt (fun i=>eM S (aK.getD i 0) d) i=T at*;generalize eM S (aK.getD i 0) d=s at*;generalize aK.getD i 0=q at*;go_wp2_with (go_at_call 95;with_reducible refine(HP.out).mono ?_);rintro e w3 ⟨rfl,h3,hk3⟩;have HF:=hid (And.intro h3 (cm.out.trans hk3));clear h3 hk3 HP cm;go_wp2;refine⟨⟨i+1,by omega,by go_num,hid ⟨?_,HF.out.2⟩⟩,by simp [intOf];omega⟩;rw [sR.out,←ByteArray.append_assoc];exact HF.out.1
  ·obtain rfl:i=aK.length:=by omega
   obtain⟨h1,aR⟩:=hst.out;have cz2:=h1.Bt;have fz2:=h1.thaw 3;have lz2:=h1.size;have HF:=hid (And.intro (h1.deep z).1 (aR.trans (h1.deep z).2));clear h1 aR hst HC HK HZ c2 cw cz fz HD HKD;exact qD
end
end Go.Proofs.YtjchnliaglecoaaGreatDoor
/- A part of the proof. Conditions: none. -/
set_option maxRecDepth 100000
set_option maxHeartbeats 8000000
namespace Go.Proofs.YtjchnliaglecoaaGreatDoor
open Go Go.RowKit Go.Nodes Go.Am
section
variable {p:Option Addr} {c:Nat} {ns:List Nd} {W0:World} {B:Nat} (ht:Tr ns) (hN:aA W0 p ns) {E:Int→Nat→ByteArray} {K:Int→ByteArray} {S:Int→Nat→ByteArray} {N:Nat} (aJ:N≤ns.length)
include ht hN aJ
theorem F7 (hK:WK p c ns W0 B K N) (hS:WS p c ns W0 B S N) (m d:Nat) (u:ByteArray) (w:World) (h:Wr W0 B (.slice p ns.length c) u (d:Int) w) (bR:m≤N) (hm:m<ns.length) (hd:(d:Int)+m≤2000) (hk:ns[m].kind=22) (hsz:u.size+(fG ns K S ns[m] d).size≤1000000000):
  Calls Tryz.prog 147 #[.pointer (some ⟨B,0,none⟩),.int .i64 (m:Int)] w (aI W0 B (.slice p ns.length c) (u++fG ns K S ns[m] d) (d:Int) w):=by
 have zq:=ht;clear zq;have zq:=hN;clear zq;have zq:=aJ;clear zq
 obtain⟨b,o,hp,hlt,-,-,c2,-⟩:=bL hN h.below hm;have hl:(m:Int)<(ns.length:Int):=aa;have hv:=ht.all m ns[m] hm (List.getElem?_eq_getElem hm);have bK:=bM hv;rw [hk] at bK;have hk2:2≤ns[m].kids.length:=bK;have hf:=hv.fits;rw [hk] at hf;have aT:=(ht.few.2 ns[m] (List.getElem_mem hm)).1;have aX:=ht.cap ns[m] (List.getElem_mem hm);have hq:∀i,i<ns[m].kids.length→0≤ns[m].kids.getD i 0∧ns[m].kids.getD i 0<m:=fun i hi=>cE ht (List.getElem?_eq_getElem hm) hi
 have jC:∀i (hi:i<ns[m].kids.length),∃b o,ns[m].kp=some ⟨b,o,none⟩∧b<W0.heap.size∧W0.cell? ⟨b,o+i,none⟩=some (.int .i64 (ns[m].kids.getD i 0)):=fun i hi=>cC hN (Below.refl _ _) hm hi
 obtain⟨n2,yZ⟩:∃n2,ns[m].kids.length=n2+2:=⟨ns[m].kids.length - 2,by omega⟩;obtain⟨R,hR⟩:∃R,R=fG ns K S ns[m] d:=⟨_,rfl⟩;rw [←hR] at hsz ⊢;have hX:R=(⟨#[40]⟩:ByteArray)++jt ⟨#[44,32]⟩ (fun i=>eC ns K (ns[m].kids.getD i 0)) n2++(⟨#[41]⟩:ByteArray)++bO ns K (ns[m].kids.getD n2 0)++(⟨#[10]⟩:ByteArray)
  ++aL ns S (ns[m].kids.getD (n2+1) 0) (d+1)++bP d++(⟨#[101,110,100]⟩:ByteArray):=by
  rw [hR];unfold fG;rw [yZ];rfl
 have aj:=hsz;rw [hX] at aj;simp only [ByteArray.size_append] at aj;have FV:=hq n2 aa;have hqb:=hq (n2+1) aa;obtain⟨bk,ok,fO,fu,uD⟩:=jC n2 aa;obtain⟨bk',ok',qb,BM,ckb⟩:=jC (n2+1) aa;rw [fO] at qb;cases qb;have Ip:(ns[m].kids.take n2).length=n2:=by rw [List.length_take];omega
 have hIt:bC W0 (some ⟨bk,ok,none⟩) (ns[m].kids.take n2):=by
  exact ZB
 have hPC:∀(bx:Nat) (pE:bx≠B) i,i<n2→∀(u:ByteArray) (w1:World),w1.heap[bx]?=some (.cells #[.pointer (some ⟨B,0,none⟩)] 73 (0,0))→Wr W0 B (.slice p ns.length c) u (d:Int) w1→u.size+(eC ns K (ns[m].kids.getD i 0)).size≤1000000000→
   Calls Tryz.prog 197 #[.int .i64 ((ns[m].kids.take n2).getD i 0),.pointer (some ⟨bx,0,none⟩)] w1 (aI W0 B (.slice p ns.length c) (u++eC ns K (ns[m].kids.getD i 0)) (d:Int) w1):=fun bx pE i hi u w1 sU hw hs=>by
  have e:(ns[m].kids.take n2).getD i 0=ns[m].kids.getD i 0:=by simp [List.getD,List.getElem?_take,hi]
  rw [e];have lq:i<ns[m].kids.length:=aa;obtain⟨h0,h1⟩:=hq i lq;have AO:=kr (c:=80) (f:=[116,98]) hf ai ai (i:=i) (by show i<ns[m].kids.length - 2;omega);obtain⟨zz,hz⟩:∃zz:Nat,ns[m].kids.getD i 0=zz:=⟨(ns[m].kids.getD i 0).toNat,by omega⟩;rw [hz] at AO h0 h1 hs ⊢;have hzl:zz<ns.length:=aa;have h23:ns[zz].kind.toNat=23:=FU;have Ec:=bM (ht.all zz ns[zz] hzl (List.getElem?_eq_getElem hzl));rw [h23] at Ec;exact abn ht hN aJ hK zz (d:Int) bx u w1 sU pE hw aa hzl Ec hs
 have hCl:∀(bx:Nat) (pE:bx≠B) (kc:Nat) (u:ByteArray) (w1:World),w1.heap[bx]?=some (.cells #[.pointer (some ⟨B,0,none⟩)] 73 (0,0))→Wr W0 B (.slice p ns.length c) u (d:Int) w1→u.size+(jt ⟨#[44,32]⟩ (fun i=>eC ns K (ns[m].kids.getD i 0)) n2).size≤1000000000→
   Calls Tryz.prog 196 #[.pointer (some ⟨B,0,none⟩),.slice (some ⟨bk,ok,none⟩) n2 kc,.func (.func 197) #[] #[.pointer (some ⟨bx,0,none⟩)]] w1 (aI W0 B (.slice p ns.length c) (u++jt ⟨#[44,32]⟩ (fun i=>eC ns K (ns[m].kids.getD i 0)) n2) (d:Int) w1):=fun bx pE kc u w1 sU hw hs=>by
  have h2:=Cc (ns[m].kids.take n2) (some ⟨bk,ok,none⟩) kc (fun i=>eC ns K (ns[m].kids.getD i 0)) u (d:Int) w1 bx sU pE hw hIt aa (fun i hi u w1 sU hw hs=>hPC bx pE i aa u w1 sU hw hs) (by rw [Ip];exact hs);rw [Ip] at h2;exact h2
 have QT:=hid (fun(u:ByteArray) (w:World) (hw:Wr W0 B (.slice p ns.length c) u (d:Int) w) (hs:u.size+(bO ns K (ns[m].kids.getD n2 0)).size≤1000000000)=>uK hN aJ hK (ns[m].kids.getD n2 0) (d:Int) u w hw FV.1 aa hs);have hCb:=hid (fun(u:ByteArray) (w:World) (hw:Wr W0 B (.slice p ns.length c) u (d:Int) w) (hs:u.size+(aL ns S (ns[m].kids.getD (n2+1) 0) (d+1)).size≤1000000000)=>nA ht hN aJ hS (ns[m].kids.getD (n2+1) 0) (d:Int) (d+1) aa u w hw hqb.1 aa aa aa hs);have HCl:=hid hCl;have iM:d≤2000:=aa;have akO:(n2:Int)≤10000:=aa;obtain⟨kc,mj⟩:∃kc,ns[m].aG=kc:=⟨_,rfl⟩;have A7:(n2:Int)+2≤(kc:Int):=aa;have KQ:¬(kc:Int)=0:=aa;have KR:¬kc=0:=aa;rw [fO,yZ,mj] at c2;have LK:=hid (And.intro fu (And.intro uD ckb));have Gj:IntKind.i64.wrap (n2:Int)=(n2:Int):=Am.nQ aa aa;have hw2:IntKind.i64.wrap ((n2:Int)+1)=(n2:Int)+1:=Am.nQ aa aa;have hk3:(n2:Int)≤(kc:Int):=aa;have AG:(n2:Int)+2 - 1=(n2:Int)+1:=aa;have hk4:n2≤kc:=aa;have wu:0<kc:=aa;have hk8:(0:Int)≤(n2:Int)+1:=aa;have hk9:((n2:Int)+1).toNat=n2+1:=aa;have xL:(n2:Int)<(n2:Int)+2:=aa;have NN:(n2:Int)+1<(n2:Int)+2:=aa;have cw:=h.cell0;have lw:=h.size;have rq:w.heap.size≠B:=aa;have H:=hid h;have HX:=hid hX;clear hS hK hN ht hq hf aT hv bK hk2 jC hsz aJ hR hX FV hqb aX mj fO yZ hk Ip hIt hPC hCl uD ckb fu BM h;generalize jt ⟨#[44,32]⟩ (fun i=>eC ns K (ns[m].kids.getD i 0)) n2=t0 at*;generalize bO ns K (ns[m].kids.getD n2 0)=t1 at*;generalize aL ns S (ns[m].kids.getD (n2+1) 0) (d+1)=t2 at*;generalize ns[m].kids.getD n2 0=ka at*;generalize ns[m].kids.getD (n2+1) 0=kb at*;clear hm;subst hp;generalize ns.length=L at*;have bQ:Below w.heap.size w (w.alloc (.cells #[.pointer (some ⟨B,0,none⟩)] 73)):=bA (Below.refl _ _) _;have h0z:=H.out.later bQ;have cI:=hid (aC (B:=B) bQ);have jV:=hid (heap_alloc_new w (.cells #[.pointer (some ⟨B,0,none⟩)] 73));have hP:=cW h0z ⟨#[40]⟩ aa;rw [World.size_alloc] at hP;have cR:=hid hP;clear bQ h0z hP H;go_enter Tryz.func147,Tryz.ntmps147;go_wp2_with (go_at_call 44;with_reducible refine(cR.out).mono ?_);rintro e w1 ⟨rfl,h1,aR⟩;have cm:=hid (cI.out.trans aR);have fT:=hid (aR.2 _ _ _ jV.out ai rq);have vp:w1.cell? ⟨w.heap.size,0,none⟩=some (.pointer (some ⟨B,0,none⟩)):=kT;have TA:w.heap.size<w1.heap.size:=(Array.getElem?_eq_some_iff.1 fT.out).1;have cA1:=(h1.below.cell (p:=⟨bk,_,none⟩) LK.out.1).trans LK.out.2.1;have cB1:=(h1.below.cell (p:=⟨bk,_,none⟩) LK.out.1).trans LK.out.2.2;have rC:bk<w1.heap.size:=Nat.lt_of_lt_of_le LK.out.1 h1.below.size;have dG:=hid (HCl.out w.heap.size rq kc _ _ (show(w1.drew).heap[w.heap.size]?=_ from fT.out) (h1.later (Below.refl _ _).drew) mB);replace cm:=hid (cm.out.trans (aC (B:=B) (Below.refl w1.heap.size w1).drew));have B3:=hid (show(w1.drew).heap[w.heap.size]?=_ from fT.out);clear h1 aR cR cI jV;clear fT;have fT:=B3;clear B3;go_wp2;go_still_tail 6,ah;go_wp2_with (go_at_call 196;with_reducible refine(dG.out).mono ?_);rintro e w2 ⟨rfl,h2,hk2⟩;have eD:=hid (cm.out.trans hk2);have kK:=hid (hk2.2 _ _ _ fT.out ai rq);have wk:w2.cell? ⟨w.heap.size,0,none⟩=some (.pointer (some ⟨B,0,none⟩)):=sD;have lX2:w.heap.size<w2.heap.size:=(Array.getElem?_eq_some_iff.1 kK.out).1;have cA2:=(h2.below.cell (p:=⟨bk,_,none⟩) LK.out.1).trans LK.out.2.1;have cB2:=(h2.below.cell (p:=⟨bk,_,none⟩) LK.out.1).trans LK.out.2.2;have wq:bk<w2.heap.size:=Nat.lt_of_lt_of_le LK.out.1 h2.below.size;have eI:=hid (cW h2 ⟨#[41]⟩ mB);clear h2 hk2 dG cm fT vp TA cA1 cB1 rC;go_wp2_with (go_at_call 44;with_reducible refine(eI.out).mono ?_);rintro e w3 ⟨rfl,h3,hk3⟩;have lJ:=hid (eD.out.trans hk3);have CE:=hid (hk3.2 _ _ _ kK.out ai rq);have cX3:w3.cell? ⟨w.heap.size,0,none⟩=some (.pointer (some ⟨B,0,none⟩)):=by simp [World.cell?,CE.out]
 have lX3:w.heap.size<w3.heap.size:=(Array.getElem?_eq_some_iff.1 CE.out).1;have cA3:=(h3.below.cell (p:=⟨bk,_,none⟩) LK.out.1).trans LK.out.2.1;have cB3:=(h3.below.cell (p:=⟨bk,_,none⟩) LK.out.1).trans LK.out.2.2;have FM:bk<w3.heap.size:=Nat.lt_of_lt_of_le LK.out.1 h3.below.size;have vv:=hid (QT.out _ _ (h3.later (Below.refl _ _).drew) mB);replace lJ:=hid (lJ.out.trans (aC (B:=B) (Below.refl w3.heap.size w3).drew));have B3:=hid (show(w3.drew).heap[w.heap.size]?=_ from CE.out);clear h3 hk3 eI eD kK wk lX2 cA2 cB2 wq;clear CE;have CE:=B3;clear B3;go_wp2;go_still_tail 6,ah;go_wp2_with (go_at_call 145;with_reducible refine(vv.out).mono ?_);rintro e w4 ⟨rfl,h4,hk4⟩;have zV:=hid (lJ.out.trans hk4);have HX4:=hid (hk4.2 _ _ _ CE.out ai rq);have cX4:w4.cell? ⟨w.heap.size,0,none⟩=some (.pointer (some ⟨B,0,none⟩)):=by simp [World.cell?,HX4.out]
 have lX4:w.heap.size<w4.heap.size:=(Array.getElem?_eq_some_iff.1 HX4.out).1;have cA4:=(h4.below.cell (p:=⟨bk,_,none⟩) LK.out.1).trans LK.out.2.1;have cB4:=(h4.below.cell (p:=⟨bk,_,none⟩) LK.out.1).trans LK.out.2.2;have lK4:bk<w4.heap.size:=Nat.lt_of_lt_of_le LK.out.1 h4.below.size;have FR:=hid (cW h4 ⟨#[10]⟩ mB);clear h4 hk4 vv lJ CE cX3 lX3 cA3 cB3 FM;go_wp2_with (go_at_call 44;with_reducible refine(FR.out).mono ?_);rintro e w5 ⟨rfl,h5,wu⟩;have xY:=hid (zV.out.trans wu);have HX5:=hid (wu.2 _ _ _ HX4.out ai rq);have cX5:w5.cell? ⟨w.heap.size,0,none⟩=some (.pointer (some ⟨B,0,none⟩)):=by simp [World.cell?,HX5.out]
 have lX5:w.heap.size<w5.heap.size:=(Array.getElem?_eq_some_iff.1 HX5.out).1;have cA5:=(h5.below.cell (p:=⟨bk,_,none⟩) LK.out.1).trans LK.out.2.1;have cB5:=(h5.below.cell (p:=⟨bk,_,none⟩) LK.out.1).trans LK.out.2.2;have lK5:bk<w5.heap.size:=Nat.lt_of_lt_of_le LK.out.1 h5.below.size;have Pw:=hid (hCb.out _ _ (h5.later (Below.refl _ _).drew) mB);replace xY:=hid (xY.out.trans (aC (B:=B) (Below.refl w5.heap.size w5).drew));have B3:=hid (show(w5.drew).heap[w.heap.size]?=_ from HX5.out);clear h5 wu FR zV HX4 cX4 lX4 cA4 cB4 lK4;clear HX5;have HX5:=B3;clear B3;go_wp2;go_still_tail 5,ah;go_wp2_with (go_at_call 46;with_reducible refine(Pw.out).mono ?_);rintro e w6 ⟨rfl,h6,xL⟩;have Zh:=hid (xY.out.trans xL);have HX6:=hid (xL.2 _ _ _ HX5.out ai rq);have cX6:w6.cell? ⟨w.heap.size,0,none⟩=some (.pointer (some ⟨B,0,none⟩)):=by simp [World.cell?,HX6.out]
 have lX6:w.heap.size<w6.heap.size:=(Array.getElem?_eq_some_iff.1 HX6.out).1;have cA6:=(h6.below.cell (p:=⟨bk,_,none⟩) LK.out.1).trans LK.out.2.1;have cB6:=(h6.below.cell (p:=⟨bk,_,none⟩) LK.out.1).trans LK.out.2.2;have lK6:bk<w6.heap.size:=Nat.lt_of_lt_of_le LK.out.1 h6.below.size;have TD:=hid (Bu h6 iM ⟨#[101,110,100]⟩ mB);clear h6 xL Pw xY HX5 cX5 lX5 cA5 cB5 lK5;go_wp2_with (go_at_call 144;with_reducible refine(TD.out).mono ?_);rintro e w7 ⟨rfl,h7,NN⟩;have HF:=hid (And.intro h7 (Zh.out.trans NN));clear h7 NN TD Zh;go_wp2;go_end0;refine⟨rfl, ?_,HF.out.2⟩;rw [HX.out];exact DB
end
end Go.Proofs.YtjchnliaglecoaaGreatDoor
/- A part of the proof. Conditions: none. -/
set_option maxRecDepth 100000
set_option maxHeartbeats 8000000
namespace Go.Proofs.YtjchnliaglecoaaGreatDoor
open Go Go.RowKit Go.Nodes Go.Am
section
variable {p:Option Addr} {c:Nat} {ns:List Nd} {W0:World} {B:Nat} (ht:Tr ns) (hN:aA W0 p ns) {E:Int→Nat→ByteArray} {K:Int→ByteArray} {S:Int→Nat→ByteArray} {N:Nat} (aJ:N≤ns.length)
include ht hN aJ
theorem PS (hE:WE p c ns W0 B E N) (m d:Nat) (u:ByteArray) (w:World) (h:Wr W0 B (.slice p ns.length c) u (d:Int) w) (bR:m≤N) (hm:m<ns.length) (hd:(d:Int)+m≤2000) (hk:ns[m].kind=28) (hsz:u.size+(K5 ns E ns[m] d).size≤1000000000):
  Calls Tryz.prog 199 #[.pointer (some ⟨B,0,none⟩),.agg #[.int .i64 28,.string ns[m].text,.slice ns[m].kp ns[m].kids.length ns[m].aG,.int .i64 ns[m].place]] w (aI W0 B (.slice p ns.length c) (u++K5 ns E ns[m] d) (d:Int) w):=by
 have zq:=ht;clear zq;have zq:=hN;clear zq;have zq:=aJ;clear zq
 have hv:=ht.all m ns[m] hm (List.getElem?_eq_getElem hm);have bK:=bM hv;rw [hk] at bK;have bu:0<ns[m].kids.length:=Nat.lt_of_lt_of_le ai bK;obtain⟨aq,aU,bf,lk0,dI⟩:=cC hN (Below.refl _ _) hm bu;have eA:=cE ht (List.getElem?_eq_getElem hm) bu;have dY:(0:Int)<(ns[m].kids.length:Int):=aa;obtain⟨z,hz⟩:∃z:Nat,ns[m].kids.getD 0 0=z:=⟨(ns[m].kids.getD 0 0).toNat,by omega⟩;rw [hz] at eA dI;have hzl:z<ns.length:=aa;have ZU:(z:Int)<(ns.length:Int):=aa;obtain⟨b,o,hp,hlt,d0,d1,d2,d3⟩:=bL hN h.below hzl;have hD:zT ns ns[m]=((ns[m].text.toList==[45]) && (decide (ns[z].kind=28) && (ns[z].text.toList==[45]))):=by
  exact Oz
 obtain⟨R,hR⟩:∃R,R=K5 ns E ns[m] d:=⟨_,rfl⟩;rw [←hR] at hsz ⊢;unfold K5 at hR;rw [hD,hz] at hR;have cw:=h.cell0;have lw:=h.size;have dm:=hid (fun(u:ByteArray) (w:World) (hw:Wr W0 B (.slice p ns.length c) u (d:Int) w) (hs:u.size+(bB ns E (z:Int) 7 d).size≤1000000000)=>tJ ht hN aJ hE (z:Int) 7 d u w hw eA.1 aa aa aa hs);generalize bB ns E (z:Int) 7 d=s0 at*;have HR:=hid hR;have H:=hid h;rw [Nat.add_zero] at dI;have LK:=hid (And.intro lk0 dI);have ckw:=hid ((h.below.cell (p:=⟨aq,_,none⟩) lk0).trans dI);have rB:=hid (Nat.lt_of_lt_of_le lk0 h.below.size);clear hE hR hN ht aJ hv bK eA h bu hz hD hk;generalize ns[z]=y at*;obtain⟨yk,yt,yp,yc,yks,ypl⟩:=y;generalize ns[m]=x at*;obtain⟨xk,xt,xp,xc,aK,aP⟩:=x;simp only at d0 d1 d2 d3 HR bf dY ⊢;subst hp bf;clear hm hzl;generalize ns.length=L at*;generalize aK.length=xl at*;generalize yks.length=yl at*;have oM:=ckw.out;have lk1:=rB.out;obtain⟨wz,cV⟩:∃wz,wz=((w.alloc (.cells #[.int .i64 28,.string xt,.slice (some ⟨aq,aU,none⟩) xl xc,.int .i64 aP] 56)).alloc (.cells #[.int .i64 yk,.string yt,.slice yp yl yc,.int .i64 ypl] 56)).drew:=⟨_,rfl⟩;have bQ:Below w.heap.size w wz:=by rw [cV];exact bD (bA (bA (Below.refl _ _) _) _)
 have H0:=H.out.later bQ;have cI:=hid (aC (B:=B) bQ);have jV:=hid (show wz.heap[w.heap.size]?=some (.cells #[.int .i64 28,.string xt,.slice (some ⟨aq,aU,none⟩) xl xc,.int .i64 aP] 56 (0,0)) by
  rw [cV];show((w.alloc _).alloc _).heap[w.heap.size]?=_;exact dO (heap_alloc_new _ _))
 have dW:=hid (show wz.heap[w.heap.size+1]?=some (.cells #[.int .i64 yk,.string yt,.slice yp yl yc,.int .i64 ypl] 56 (0,0)) by
  rw [cV];show((w.alloc _).alloc _).heap[w.heap.size+1]?=_;have:=heap_alloc_new (w.alloc (.cells #[.int .i64 28,.string xt,.slice (some ⟨aq,aU,none⟩) xl xc,.int .i64 aP] 56)) (.cells #[.int .i64 yk,.string yt,.slice yp yl yc,.int .i64 ypl] 56);simpa using this)
 have Ty:w.heap.size≠B:=aa;have Tz:w.heap.size+1≠B:=aa;have jb:=hid cV;have cX0:wz.cell? ⟨w.heap.size,1,none⟩=some (.string xt):=by simp [World.cell?,jV.out]
 have lX0:w.heap.size<wz.heap.size:=(Array.getElem?_eq_some_iff.1 jV.out).1;clear cV bQ;have key:∀(t:ByteArray) (l:List UInt8),(t.toList==l)=true→t=⟨l.toArray⟩:=fun t l h=>by
  have h2:=eq_of_beq h;rw [ByteArray.toList_eq] at h2;cases t with
  |mk d=>rw [←h2]
 cases e1:(xt.toList==[110,111,116]) with
 |true=>
  obtain rfl:=key _ _ e1;have qI:=HR.out;rw [if_pos e1] at qI;replace HR:=hid qI;clear qI key;have qC:R=(⟨#[110,111,116]⟩:ByteArray)++(⟨#[32]⟩:ByteArray)++s0:=HR.out;have aj:=hsz;rw [qC] at aj;simp only [ByteArray.size_append] at aj;have gy:=hid qC;have cR:=hid (cW H0 (⟨#[110,111,116]⟩:ByteArray) aa);clear HR qC hsz;go_enter Tryz.func199,Tryz.ntmps199;go_wp2;go_region;rw [←jb.out];clear jb H0;go_wp2_with (go_at_call 44;with_reducible refine(cR.out).mono ?_);rintro e w1 ⟨rfl,h1,aR⟩;have cm:=hid (cI.out.trans aR);have fT:=hid (aR.2 _ _ _ jV.out ai Ty);have dJ:=hid (aR.2 _ _ _ dW.out ai Tz);have vp:w1.cell? ⟨w.heap.size,1,none⟩=some (.string (⟨#[110,111,116]⟩:ByteArray)):=kT;have cK1:w1.cell? ⟨w.heap.size,2,none⟩=some (.slice (some ⟨aq,aU,none⟩) xl xc):=kT;have lF:w1.cell? ⟨w.heap.size+1,0,none⟩=some (.int .i64 yk):=cJ;have lG:w1.cell? ⟨w.heap.size+1,1,none⟩=some (.string yt):=cJ;have TA:w.heap.size<w1.heap.size:=(Array.getElem?_eq_some_iff.1 fT.out).1;have lH:w.heap.size+1<w1.heap.size:=(Array.getElem?_eq_some_iff.1 dJ.out).1;have cq1:=(h1.below.cell (p:=⟨aq,_,none⟩) LK.out.1).trans LK.out.2;have lq1:aq<w1.heap.size:=Nat.lt_of_lt_of_le LK.out.1 h1.below.size;have dG:=hid (cW h1 ⟨#[32]⟩ vq);clear h1 aR cR cI jV dW;go_wp2_with (go_at_call 44;with_reducible refine(dG.out).mono ?_);rintro e w2 ⟨rfl,h2,hk2⟩;have eD:=hid (cm.out.trans hk2);have kK:=hid (hk2.2 _ _ _ fT.out ai Ty);have fW:=hid (hk2.2 _ _ _ dJ.out ai Tz);have wk:w2.cell? ⟨w.heap.size,1,none⟩=some (.string (⟨#[110,111,116]⟩:ByteArray)):=sD;have cK2:w2.cell? ⟨w.heap.size,2,none⟩=some (.slice (some ⟨aq,aU,none⟩) xl xc):=sD;have sW:w2.cell? ⟨w.heap.size+1,0,none⟩=some (.int .i64 yk):=cg;exact YT
 |false=>
  cases e2:(xt.toList==[45]) with
  |false=>
   clear key;have qC:R=xt++s0:=by rw [HR.out];simp [e1,e2]
   exact YM
  |true=>
   by_cases hy:yk=28
   ·subst hy;cases e4:(yt.toList==[45]) with
    |true=>
     have qI:R=(⟨#[45,32]⟩:ByteArray)++s0:=by rw [HR.out];simp [e1,e2,e4]
     obtain rfl:=key _ _ e2;replace HR:=hid qI;clear qI key;have qC:R=(⟨#[45]⟩:ByteArray)++(⟨#[32]⟩:ByteArray)++s0:=HR.out;have aj:=hsz;rw [qC] at aj;simp only [ByteArray.size_append] at aj;have gy:=hid qC;have cR:=hid (cW H0 (⟨#[45]⟩:ByteArray) aa);clear HR qC hsz;go_enter Tryz.func199,Tryz.ntmps199;go_wp2;go_region;rw [←jb.out];clear jb H0;go_wp2_with (go_at_call 44;with_reducible refine(cR.out).mono ?_);rintro e w1 ⟨rfl,h1,aR⟩;have cm:=hid (cI.out.trans aR);have fT:=hid (aR.2 _ _ _ jV.out ai Ty);have dJ:=hid (aR.2 _ _ _ dW.out ai Tz);have vp:w1.cell? ⟨w.heap.size,1,none⟩=some (.string (⟨#[45]⟩:ByteArray)):=kT;have cK1:w1.cell? ⟨w.heap.size,2,none⟩=some (.slice (some ⟨aq,aU,none⟩) xl xc):=kT;have lF:w1.cell? ⟨w.heap.size+1,0,none⟩=some (.int .i64 28):=cJ;have lG:w1.cell? ⟨w.heap.size+1,1,none⟩=some (.string yt):=cJ;have TA:w.heap.size<w1.heap.size:=(Array.getElem?_eq_some_iff.1 fT.out).1;have lH:w.heap.size+1<w1.heap.size:=(Array.getElem?_eq_some_iff.1 dJ.out).1;have cq1:=(h1.below.cell (p:=⟨aq,_,none⟩) LK.out.1).trans LK.out.2;have lq1:aq<w1.heap.size:=Nat.lt_of_lt_of_le LK.out.1 h1.below.size;have dG:=hid (cW h1 ⟨#[32]⟩ vq);clear h1 aR cR cI jV dW;go_wp2_with (go_at_call 44;with_reducible refine(dG.out).mono ?_);rintro e w2 ⟨rfl,h2,hk2⟩;have eD:=hid (cm.out.trans hk2);have kK:=hid (hk2.2 _ _ _ fT.out ai Ty);have fW:=hid (hk2.2 _ _ _ dJ.out ai Tz);have wk:w2.cell? ⟨w.heap.size,1,none⟩=some (.string (⟨#[45]⟩:ByteArray)):=sD;have cK2:w2.cell? ⟨w.heap.size,2,none⟩=some (.slice (some ⟨aq,aU,none⟩) xl xc):=sD;have sW:w2.cell? ⟨w.heap.size+1,0,none⟩=some (.int .i64 28):=cg;exact YT
    |false=>
     clear key;have qC:R=xt++s0:=by rw [HR.out];simp [e1,e2,e4]
     have aj:=hsz;rw [qC] at aj;simp only [ByteArray.size_append] at aj;have gy:=hid qC;have cR:=hid (cW H0 xt aa);clear HR qC hsz;go_enter Tryz.func199,Tryz.ntmps199;go_wp2;go_region;rw [←jb.out];clear jb H0;go_wp2_with (go_at_call 44;with_reducible refine(cR.out).mono ?_);rintro e w1 ⟨rfl,h1,aR⟩;have cm:=hid (cI.out.trans aR);have fT:=hid (aR.2 _ _ _ jV.out ai Ty);have dJ:=hid (aR.2 _ _ _ dW.out ai Tz);have vp:w1.cell? ⟨w.heap.size,1,none⟩=some (.string xt):=kT;have cK1:w1.cell? ⟨w.heap.size,2,none⟩=some (.slice (some ⟨aq,aU,none⟩) xl xc):=kT;have lF:w1.cell? ⟨w.heap.size+1,0,none⟩=some (.int .i64 28):=cJ;have lG:w1.cell? ⟨w.heap.size+1,1,none⟩=some (.string yt):=cJ;have TA:w.heap.size<w1.heap.size:=(Array.getElem?_eq_some_iff.1 fT.out).1;have lH:w.heap.size+1<w1.heap.size:=(Array.getElem?_eq_some_iff.1 dJ.out).1;have cq1:=(h1.below.cell (p:=⟨aq,_,none⟩) LK.out.1).trans LK.out.2;have lq1:aq<w1.heap.size:=Nat.lt_of_lt_of_le LK.out.1 h1.below.size;have dG:=hid (dm.out _ w1 h1 vq);clear h1 aR cR cI jV dW;go_wp2_with (go_at_call 238;with_reducible refine(dG.out).mono ?_);rintro e w2 ⟨rfl,h2,hk2⟩;have eD:=hid (cm.out.trans hk2);have kK:=hid (hk2.2 _ _ _ fT.out ai Ty);have fW:=hid (hk2.2 _ _ _ dJ.out ai Tz);have HF:=hid (And.intro h2 eD.out);clear h2 hk2 dG eD;exact zS
   ·have e3:(yk==28)=false:=by simp [hy]
    clear key;have qC:R=xt++s0:=by rw [HR.out];simp [e1,e2,hy]
    exact YM
end
end Go.Proofs.YtjchnliaglecoaaGreatDoor
/- A part of the proof. Conditions: none. -/
set_option maxRecDepth 100000
set_option maxHeartbeats 8000000
namespace Go.Proofs.YtjchnliaglecoaaGreatDoor
open Go Go.RowKit Go.Nodes Go.Am
section
variable {p:Option Addr} {c:Nat} {ns:List Nd} {W0:World} {B:Nat} (ht:Tr ns) (hN:aA W0 p ns) {E:Int→Nat→ByteArray} {K:Int→ByteArray} {S:Int→Nat→ByteArray} {N:Nat} (aJ:N≤ns.length) (hE:WE p c ns W0 B E N)
include ht hN aJ hE
section
variable (hK:WK p c ns W0 B K N) (hS:WS p c ns W0 B S N)
include hK hS
theorem Jy (m d:Nat) (u:ByteArray) (w:World) (h:Wr W0 B (.slice p ns.length c) u (d:Int) w) (bR:m≤N) (hm:m<ns.length) (hd:(d:Int)+m≤2000) (hk:ns[m].kind=22) (hsz:u.size+(aF ns E K S ns[m] d).size≤1000000000):
  Calls Tryz.prog 148 #[.pointer (some ⟨B,0,none⟩),.int .i64 (m:Int)] w (aI W0 B (.slice p ns.length c) (u++aF ns E K S ns[m] d) (d:Int) w):=by
 have zq:=ht;clear zq;have zq:=hN;clear zq;have zq:=aJ;clear zq;have zq:=hE;clear zq;have zq:=hK;clear zq;have zq:=hS;clear zq
 have Q7:=trivial;exact jh
end
theorem Jz (m d:Nat) (u:ByteArray) (w:World) (h:Wr W0 B (.slice p ns.length c) u (d:Int) w) (bR:m≤N) (hm:m<ns.length) (hd:(d:Int)+m≤2000) (hk:ns[m].kind=16) (hsz:u.size+(aF ns E K S ns[m] d).size≤1000000000):
  Calls Tryz.prog 148 #[.pointer (some ⟨B,0,none⟩),.int .i64 (m:Int)] w (aI W0 B (.slice p ns.length c) (u++aF ns E K S ns[m] d) (d:Int) w):=by
 have zq:=ht;clear zq;have zq:=hN;clear zq;have zq:=aJ;clear zq;have zq:=hE;clear zq
 have JA:=trivial;exact jh
theorem JB (m d:Nat) (u:ByteArray) (w:World) (h:Wr W0 B (.slice p ns.length c) u (d:Int) w) (bR:m≤N) (hm:m<ns.length) (hd:(d:Int)+m≤2000) (hk:ns[m].kind=28) (hsz:u.size+(aF ns E K S ns[m] d).size≤1000000000):
  Calls Tryz.prog 148 #[.pointer (some ⟨B,0,none⟩),.int .i64 (m:Int)] w (aI W0 B (.slice p ns.length c) (u++aF ns E K S ns[m] d) (d:Int) w):=by
 have zq:=ht;clear zq;have zq:=hN;clear zq;have zq:=aJ;clear zq;have zq:=hE;clear zq
 have JC:=trivial;exact jh
theorem JD (m d:Nat) (u:ByteArray) (w:World) (h:Wr W0 B (.slice p ns.length c) u (d:Int) w) (bR:m≤N) (hm:m<ns.length) (hd:(d:Int)+m≤2000) (hk:ns[m].kind=27) (hsz:u.size+(aF ns E K S ns[m] d).size≤1000000000):
  Calls Tryz.prog 148 #[.pointer (some ⟨B,0,none⟩),.int .i64 (m:Int)] w (aI W0 B (.slice p ns.length c) (u++aF ns E K S ns[m] d) (d:Int) w):=by
 have zq:=ht;clear zq;have zq:=hN;clear zq;have zq:=aJ;clear zq;have zq:=hE;clear zq
 have JE:=trivial;exact jh
theorem JF (m d:Nat) (u:ByteArray) (w:World) (h:Wr W0 B (.slice p ns.length c) u (d:Int) w) (bR:m≤N) (hm:m<ns.length) (hd:(d:Int)+m≤2000) (hk:ns[m].kind=29) (hsz:u.size+(aF ns E K S ns[m] d).size≤1000000000):
  Calls Tryz.prog 148 #[.pointer (some ⟨B,0,none⟩),.int .i64 (m:Int)] w (aI W0 B (.slice p ns.length c) (u++aF ns E K S ns[m] d) (d:Int) w):=by
 have zq:=ht;clear zq;have zq:=hN;clear zq;have zq:=aJ;clear zq;have zq:=hE;clear zq
 have JG:=trivial;exact jh
theorem JH (m d:Nat) (u:ByteArray) (w:World) (h:Wr W0 B (.slice p ns.length c) u (d:Int) w) (bR:m≤N) (hm:m<ns.length) (hd:(d:Int)+m≤2000) (hk:ns[m].kind=30) (hsz:u.size+(aF ns E K S ns[m] d).size≤1000000000):
  Calls Tryz.prog 148 #[.pointer (some ⟨B,0,none⟩),.int .i64 (m:Int)] w (aI W0 B (.slice p ns.length c) (u++aF ns E K S ns[m] d) (d:Int) w):=by
 have zq:=ht;clear zq;have zq:=hN;clear zq;have zq:=aJ;clear zq;have zq:=hE;clear zq
 have JI:=trivial;exact jh
omit hE in
theorem CO (m d:Nat) (u:ByteArray) (w:World) (h:Wr W0 B (.slice p ns.length c) u (d:Int) w) (hm:m<ns.length) (hk:ns[m].kind ∉ [13,16,18,19,20,21,22,24,25,26,28,27,29,30]) (hsz:u.size+(aF ns E K S ns[m] d).size≤1000000000):
  Calls Tryz.prog 148 #[.pointer (some ⟨B,0,none⟩),.int .i64 (m:Int)] w (aI W0 B (.slice p ns.length c) (u++aF ns E K S ns[m] d) (d:Int) w):=by
 have zq:=ht;clear zq;have zq:=hN;clear zq;have zq:=aJ;clear zq
 obtain⟨b,o,hp,hlt,c0,c1,c2,c3⟩:=bL hN h.below hm;have hl:(m:Int)<(ns.length:Int):=aa;simp only [List.mem_cons,not_or,List.not_mem_nil,not_false_eq_true,and_true] at hk;obtain⟨QA,n16,n18,n19,n20,n21,n22,n24,n25,n26,Jo,Jp,Jn,Jm⟩:=hk;have hX:aF ns E K S ns[m] d=ns[m].text:=by
  rw [aF];simp only [QA,n16,n18,n19,n20,n21,n22,n24,n25,n26,Jo,Jp,Jn,Jm,or_self,if_false]
 rw [hX] at hsz ⊢;have QB:(ns[m].kind==13)=false:=by simp [QA]
 have e16:(ns[m].kind==16)=false:=by simp [n16]
 have e18:(ns[m].kind==18)=false:=by simp [n18]
 have e19:(ns[m].kind==19)=false:=by simp [n19]
 have e20:(ns[m].kind==20)=false:=by simp [n20]
 have e21:(ns[m].kind==21)=false:=by simp [n21]
 have e22:(ns[m].kind==22)=false:=by simp [n22]
 have e24:(ns[m].kind==24)=false:=by simp [n24]
 have e25:(ns[m].kind==25)=false:=by simp [n25]
 have e26:(ns[m].kind==26)=false:=by simp [n26]
 have e28:(ns[m].kind==28)=false:=by simp [Jo]
 have e27:(ns[m].kind==27)=false:=by simp [Jp]
 have e29:(ns[m].kind==29)=false:=by simp [Jn]
 have e30:(ns[m].kind==30)=false:=by simp [Jm]
 have cw:=h.cell0;have lw:=h.size;have H:=hid h;clear hX hN ht aJ h QA n16 n18 n19 n20 n21 n22 n24 n25 n26 Jo Jp Jn Jm;generalize ns[m]=x at*;obtain⟨xk,xt,xp,xc,aK,aP⟩:=x;simp only at c0 c1 c2 c3 hsz QB e16 e18 e19 e20 e21 e22 e24 e25 e26 e28 e27 e29 e30 ⊢;subst hp;clear hm;generalize ns.length=L at*;generalize aK.length=xl at*;have bQ:Below w.heap.size w (w.alloc (.cells #[.int .i64 xk,.string xt,.slice xp xl xc,.int .i64 aP] 56)):=bA (Below.refl _ _) _;have h0:=H.out.later bQ;have cI:=hid (aC (B:=B) bQ);have hP:=cW h0 xt hsz;rw [World.size_alloc] at hP;have cR:=hid hP;clear bQ h0 hP H;go_enter Tryz.func148,Tryz.ntmps148;go_wp2_with (go_at_call 44;with_reducible refine(cR.out).mono ?_);rintro e w1 ⟨rfl,h1,aR⟩;have HF:=hid (And.intro h1 (cI.out.trans aR));clear h1 aR cR cI;exact qD
end
end Go.Proofs.YtjchnliaglecoaaGreatDoor
/- A part of the proof. Conditions: none. -/
set_option maxRecDepth 100000
set_option maxHeartbeats 8000000
namespace Go.Proofs.YtjchnliaglecoaaGreatDoor
open Go Go.RowKit Go.Nodes Go.Am
section
variable {p:Option Addr} {c:Nat} {ns:List Nd} {W0:World} {B:Nat} (ht:Tr ns) (hN:aA W0 p ns) {E:Int→Nat→ByteArray} {K:Int→ByteArray} {S:Int→Nat→ByteArray} {N:Nat} (aJ:N≤ns.length) (hE:WE p c ns W0 B E N)
include ht hN aJ hE
theorem Kv (m d:Nat) (u:ByteArray) (w:World) (h:Wr W0 B (.slice p ns.length c) u (d:Int) w) (bR:m≤N) (hm:m<ns.length) (hd:(d:Int)+m≤2000) (hk:ns[m].kind=13) (hsz:u.size+(aF ns E K S ns[m] d).size≤1000000000):
  Calls Tryz.prog 148 #[.pointer (some ⟨B,0,none⟩),.int .i64 (m:Int)] w (aI W0 B (.slice p ns.length c) (u++aF ns E K S ns[m] d) (d:Int) w):=by
 have zq:=ht;clear zq;have zq:=hN;clear zq;have zq:=aJ;clear zq;have zq:=hE;clear zq
 have WD:=trivial;exact jh
theorem KD (m d:Nat) (u:ByteArray) (w:World) (h:Wr W0 B (.slice p ns.length c) u (d:Int) w) (bR:m≤N) (hm:m<ns.length) (hd:(d:Int)+m≤2000) (hk:ns[m].kind=26) (hsz:u.size+(aF ns E K S ns[m] d).size≤1000000000):
  Calls Tryz.prog 148 #[.pointer (some ⟨B,0,none⟩),.int .i64 (m:Int)] w (aI W0 B (.slice p ns.length c) (u++aF ns E K S ns[m] d) (d:Int) w):=by
 have zq:=ht;clear zq;have zq:=hN;clear zq;have zq:=aJ;clear zq;have zq:=hE;clear zq
 have WG:=trivial;exact jh
theorem KC (m d:Nat) (u:ByteArray) (w:World) (h:Wr W0 B (.slice p ns.length c) u (d:Int) w) (bR:m≤N) (hm:m<ns.length) (hd:(d:Int)+m≤2000) (hk:ns[m].kind=25) (hsz:u.size+(aF ns E K S ns[m] d).size≤1000000000):
  Calls Tryz.prog 148 #[.pointer (some ⟨B,0,none⟩),.int .i64 (m:Int)] w (aI W0 B (.slice p ns.length c) (u++aF ns E K S ns[m] d) (d:Int) w):=by
 have zq:=ht;clear zq;have zq:=hN;clear zq;have zq:=aJ;clear zq;have zq:=hE;clear zq
 have WH:=trivial;exact jh
theorem Kw (m d:Nat) (u:ByteArray) (w:World) (h:Wr W0 B (.slice p ns.length c) u (d:Int) w) (bR:m≤N) (hm:m<ns.length) (hd:(d:Int)+m≤2000) (hk:ns[m].kind=18) (hsz:u.size+(aF ns E K S ns[m] d).size≤1000000000):
  Calls Tryz.prog 148 #[.pointer (some ⟨B,0,none⟩),.int .i64 (m:Int)] w (aI W0 B (.slice p ns.length c) (u++aF ns E K S ns[m] d) (d:Int) w):=by
 have zq:=ht;clear zq;have zq:=hN;clear zq;have zq:=aJ;clear zq;have zq:=hE;clear zq
 have WI:=trivial;exact jh
theorem Ky (m d:Nat) (u:ByteArray) (w:World) (h:Wr W0 B (.slice p ns.length c) u (d:Int) w) (bR:m≤N) (hm:m<ns.length) (hd:(d:Int)+m≤2000) (hk:ns[m].kind=19) (hsz:u.size+(aF ns E K S ns[m] d).size≤1000000000):
  Calls Tryz.prog 148 #[.pointer (some ⟨B,0,none⟩),.int .i64 (m:Int)] w (aI W0 B (.slice p ns.length c) (u++aF ns E K S ns[m] d) (d:Int) w):=by
 have zq:=ht;clear zq;have zq:=hN;clear zq;have zq:=aJ;clear zq;have zq:=hE;clear zq
 have WJ:=trivial;exact jh
theorem KA (m d:Nat) (u:ByteArray) (w:World) (h:Wr W0 B (.slice p ns.length c) u (d:Int) w) (bR:m≤N) (hm:m<ns.length) (hd:(d:Int)+m≤2000) (hk:ns[m].kind=21) (hsz:u.size+(aF ns E K S ns[m] d).size≤1000000000):
  Calls Tryz.prog 148 #[.pointer (some ⟨B,0,none⟩),.int .i64 (m:Int)] w (aI W0 B (.slice p ns.length c) (u++aF ns E K S ns[m] d) (d:Int) w):=by
 have zq:=ht;clear zq;have zq:=hN;clear zq;have zq:=aJ;clear zq;have zq:=hE;clear zq
 have WL:=trivial;exact jh
theorem KB (m d:Nat) (u:ByteArray) (w:World) (h:Wr W0 B (.slice p ns.length c) u (d:Int) w) (bR:m≤N) (hm:m<ns.length) (hd:(d:Int)+m≤2000) (hk:ns[m].kind=24) (hsz:u.size+(aF ns E K S ns[m] d).size≤1000000000):
  Calls Tryz.prog 148 #[.pointer (some ⟨B,0,none⟩),.int .i64 (m:Int)] w (aI W0 B (.slice p ns.length c) (u++aF ns E K S ns[m] d) (d:Int) w):=by
 have zq:=ht;clear zq;have zq:=hN;clear zq;have zq:=aJ;clear zq;have zq:=hE;clear zq
 have WM:=trivial;exact jh
theorem Kz (m d:Nat) (u:ByteArray) (w:World) (h:Wr W0 B (.slice p ns.length c) u (d:Int) w) (bR:m≤N) (hm:m<ns.length) (hd:(d:Int)+m≤2000) (hk:ns[m].kind=20) (hsz:u.size+(aF ns E K S ns[m] d).size≤1000000000):
  Calls Tryz.prog 148 #[.pointer (some ⟨B,0,none⟩),.int .i64 (m:Int)] w (aI W0 B (.slice p ns.length c) (u++aF ns E K S ns[m] d) (d:Int) w):=by
 have zq:=ht;clear zq;have zq:=hN;clear zq;have zq:=aJ;clear zq;have zq:=hE;clear zq
 have WN:=trivial;exact jh
end
end Go.Proofs.YtjchnliaglecoaaGreatDoor
/- A part of the proof. Conditions: none. -/
set_option maxRecDepth 100000
set_option maxHeartbeats 8000000
namespace Go.Proofs.YtjchnliaglecoaaGreatDoor
open Go Go.RowKit Go.Nodes Go.Am
section
variable {p:Option Addr} {c:Nat} {ns:List Nd} {W0:World} {B:Nat} (ht:Tr ns) (hN:aA W0 p ns) {E:Int→Nat→ByteArray} {K:Int→ByteArray} {S:Int→Nat→ByteArray} {N:Nat} (aJ:N≤ns.length) (hE:WE p c ns W0 B E N) (hK:WK p c ns W0 B K N) (hS:WS p c ns W0 B S N)
include ht hN aJ hE hK hS
theorem Rt (m d:Nat) (u:ByteArray) (w:World) (h:Wr W0 B (.slice p ns.length c) u (d:Int) w) (bR:m≤N) (hm:m<ns.length) (hd:(d:Int)+m≤2000) (hk:ns[m].kind=7) (hsz:u.size+(bP d++aQ ns E K S ns[m] d++(⟨#[10]⟩:ByteArray)).size≤1000000000):
  Calls Tryz.prog 95 #[.pointer (some ⟨B,0,none⟩),.int .i64 (m:Int)] w (aI W0 B (.slice p ns.length c) (u++(bP d++aQ ns E K S ns[m] d++(⟨#[10]⟩:ByteArray))) (d:Int) w):=by
 have zq:=ht;clear zq;have zq:=hN;clear zq;have zq:=aJ;clear zq;have zq:=hE;clear zq;have zq:=hK;clear zq;have zq:=hS;clear zq
 have PE:=trivial;exact jh
theorem Ru (m d:Nat) (u:ByteArray) (w:World) (h:Wr W0 B (.slice p ns.length c) u (d:Int) w) (bR:m≤N) (hm:m<ns.length) (hd:(d:Int)+m≤2000) (hk:ns[m].kind=9) (hsz:u.size+(bP d++aQ ns E K S ns[m] d++(⟨#[10]⟩:ByteArray)).size≤1000000000):
  Calls Tryz.prog 95 #[.pointer (some ⟨B,0,none⟩),.int .i64 (m:Int)] w (aI W0 B (.slice p ns.length c) (u++(bP d++aQ ns E K S ns[m] d++(⟨#[10]⟩:ByteArray))) (d:Int) w):=by
 have zq:=ht;clear zq;have zq:=hN;clear zq;have zq:=aJ;clear zq;have zq:=hE;clear zq;have zq:=hK;clear zq;have zq:=hS;clear zq
 have PF:=trivial;exact jh
theorem Rs (m d:Nat) (u:ByteArray) (w:World) (h:Wr W0 B (.slice p ns.length c) u (d:Int) w) (bR:m≤N) (hm:m<ns.length) (hd:(d:Int)+m≤2000) (hk:ns[m].kind=6) (hsz:u.size+(bP d++aQ ns E K S ns[m] d++(⟨#[10]⟩:ByteArray)).size≤1000000000):
  Calls Tryz.prog 95 #[.pointer (some ⟨B,0,none⟩),.int .i64 (m:Int)] w (aI W0 B (.slice p ns.length c) (u++(bP d++aQ ns E K S ns[m] d++(⟨#[10]⟩:ByteArray))) (d:Int) w):=by
 have zq:=ht;clear zq;have zq:=hN;clear zq;have zq:=aJ;clear zq;have zq:=hE;clear zq;have zq:=hK;clear zq;have zq:=hS;clear zq
 have PG:=trivial;exact jh
theorem KH (m d:Nat) (u:ByteArray) (w:World) (h:Wr W0 B (.slice p ns.length c) u (d:Int) w) (bR:m≤N) (hm:m<ns.length) (hd:(d:Int)+m≤2000) (hk:ns[m].kind=10) (hsz:u.size+(bP d++aQ ns E K S ns[m] d++(⟨#[10]⟩:ByteArray)).size≤1000000000):
  Calls Tryz.prog 95 #[.pointer (some ⟨B,0,none⟩),.int .i64 (m:Int)] w (aI W0 B (.slice p ns.length c) (u++(bP d++aQ ns E K S ns[m] d++(⟨#[10]⟩:ByteArray))) (d:Int) w):=by
 have zq:=ht;clear zq;have zq:=hN;clear zq;have zq:=aJ;clear zq;have zq:=hE;clear zq;have zq:=hK;clear zq;have zq:=hS;clear zq
 have PI:=trivial;exact jh
theorem Rp (m d:Nat) (u:ByteArray) (w:World) (h:Wr W0 B (.slice p ns.length c) u (d:Int) w) (bR:m≤N) (hm:m<ns.length) (hd:(d:Int)+m≤2000) (hk:ns[m].kind=4) (hsz:u.size+(bP d++aQ ns E K S ns[m] d++(⟨#[10]⟩:ByteArray)).size≤1000000000):
  Calls Tryz.prog 95 #[.pointer (some ⟨B,0,none⟩),.int .i64 (m:Int)] w (aI W0 B (.slice p ns.length c) (u++(bP d++aQ ns E K S ns[m] d++(⟨#[10]⟩:ByteArray))) (d:Int) w):=by
 have zq:=ht;clear zq;have zq:=hN;clear zq;have zq:=aJ;clear zq;have zq:=hE;clear zq;have zq:=hK;clear zq;have zq:=hS;clear zq
 have PJ:=trivial;exact jh
theorem Rq (m d:Nat) (u:ByteArray) (w:World) (h:Wr W0 B (.slice p ns.length c) u (d:Int) w) (bR:m≤N) (hm:m<ns.length) (hd:(d:Int)+m≤2000) (hk:ns[m].kind=5) (hsz:u.size+(bP d++aQ ns E K S ns[m] d++(⟨#[10]⟩:ByteArray)).size≤1000000000):
  Calls Tryz.prog 95 #[.pointer (some ⟨B,0,none⟩),.int .i64 (m:Int)] w (aI W0 B (.slice p ns.length c) (u++(bP d++aQ ns E K S ns[m] d++(⟨#[10]⟩:ByteArray))) (d:Int) w):=by
 have zq:=ht;clear zq;have zq:=hN;clear zq;have zq:=aJ;clear zq;have zq:=hE;clear zq;have zq:=hK;clear zq;have zq:=hS;clear zq
 have PK:=trivial;exact jh
end
end Go.Proofs.YtjchnliaglecoaaGreatDoor
/- A part of the proof. Conditions: none. -/
set_option maxRecDepth 100000
set_option maxHeartbeats 8000000
namespace Go.Proofs.YtjchnliaglecoaaGreatDoor
open Go Go.RowKit Go.Nodes Go.Am
section
variable {p:Option Addr} {c:Nat} {ns:List Nd} {W0:World} {B:Nat} (ht:Tr ns) (hN:aA W0 p ns) {E:Int→Nat→ByteArray} {K:Int→ByteArray} {S:Int→Nat→ByteArray} {N:Nat} (aJ:N≤ns.length) (hE:WE p c ns W0 B E N) (hK:WK p c ns W0 B K N) (hS:WS p c ns W0 B S N)
include ht hN aJ hE hK hS
theorem KI (m d:Nat) (u:ByteArray) (w:World) (h:Wr W0 B (.slice p ns.length c) u (d:Int) w) (bR:m≤N) (hm:m<ns.length) (hd:(d:Int)+m≤2000) (hk:ns[m].kind=8) (B0:aB ns (ns[m].kids.getD 2 0)=12) (hsz:u.size+(bP d++aQ ns E K S ns[m] d++(⟨#[10]⟩:ByteArray)).size≤1000000000):
  Calls Tryz.prog 95 #[.pointer (some ⟨B,0,none⟩),.int .i64 (m:Int)] w (aI W0 B (.slice p ns.length c) (u++(bP d++aQ ns E K S ns[m] d++(⟨#[10]⟩:ByteArray))) (d:Int) w):=by
 have zq:=ht;clear zq;have zq:=hN;clear zq;have zq:=aJ;clear zq;have zq:=hE;clear zq;have zq:=hK;clear zq;have zq:=hS;clear zq
 have PL:=trivial;exact jh
theorem KJ (m d:Nat) (u:ByteArray) (w:World) (h:Wr W0 B (.slice p ns.length c) u (d:Int) w) (bR:m≤N) (hm:m<ns.length) (hd:(d:Int)+m≤2000) (hk:ns[m].kind=8) (B0:aB ns (ns[m].kids.getD 2 0)≠12) (hsz:u.size+(bP d++aQ ns E K S ns[m] d++(⟨#[10]⟩:ByteArray)).size≤1000000000):
  Calls Tryz.prog 95 #[.pointer (some ⟨B,0,none⟩),.int .i64 (m:Int)] w (aI W0 B (.slice p ns.length c) (u++(bP d++aQ ns E K S ns[m] d++(⟨#[10]⟩:ByteArray))) (d:Int) w):=by
 have zq:=ht;clear zq;have zq:=hN;clear zq;have zq:=aJ;clear zq;have zq:=hE;clear zq;have zq:=hK;clear zq;have zq:=hS;clear zq
 have PM:=trivial;exact jh
omit hE hK hS in
theorem Dp (m d:Nat) (u:ByteArray) (w:World) (h:Wr W0 B (.slice p ns.length c) u (d:Int) w) (hm:m<ns.length) (hd:(d:Int)+m≤2000) (hk:ns[m].kind ∉ [4,5,6,7,8,9,10]) (hsz:u.size+(bP d++aQ ns E K S ns[m] d++(⟨#[10]⟩:ByteArray)).size≤1000000000):
  Calls Tryz.prog 95 #[.pointer (some ⟨B,0,none⟩),.int .i64 (m:Int)] w (aI W0 B (.slice p ns.length c) (u++(bP d++aQ ns E K S ns[m] d++(⟨#[10]⟩:ByteArray))) (d:Int) w):=by
 have zq:=ht;clear zq;have zq:=hN;clear zq;have zq:=aJ;clear zq
 obtain⟨b,o,hp,hlt,c0,c1,c2,c3⟩:=bL hN h.below hm;have hl:(m:Int)<(ns.length:Int):=aa;have iM:d≤2000:=aa;simp only [List.mem_cons,not_or,List.not_mem_nil,not_false_eq_true,and_true] at hk;obtain⟨n4,n5,n6,n7,n8,n9,n10⟩:=hk;obtain⟨R,hR⟩:∃R,R=bP d++aQ ns E K S ns[m] d++(⟨#[10]⟩:ByteArray):=⟨_,rfl⟩;rw [←hR] at hsz ⊢;have hX:R=bP d++(⟨#[98,114,101,97,107]⟩:ByteArray)++(⟨#[10]⟩:ByteArray):=by
  rw [hR,aQ];simp only [n4,n5,n6,n7,n8,n9,n10,if_false]
 have aj:=hsz;rw [hX] at aj;simp only [ByteArray.size_append] at aj;have e4:(ns[m].kind==4)=false:=by simp [n4]
 have e5:(ns[m].kind==5)=false:=by simp [n5]
 have e6:(ns[m].kind==6)=false:=by simp [n6]
 have e7:(ns[m].kind==7)=false:=by simp [n7]
 have e8:(ns[m].kind==8)=false:=by simp [n8]
 have e9:(ns[m].kind==9)=false:=by simp [n9]
 have Q9:(ns[m].kind==10)=false:=by simp [n10]
 have gy:=hid hX;have cw:=h.cell0;have lw:=h.size;have H:=hid h;clear hR hX hN ht aJ hsz h n4 n5 n6 n7 n8 n9 n10;generalize ns[m]=x at*;obtain⟨xk,xt,xp,xc,aK,aP⟩:=x;simp only at c0 c1 c2 c3 e4 e5 e6 e7 e8 e9 Q9 ⊢;subst hp;clear hm;generalize ns.length=L at*;generalize aK.length=xl at*;have bQ:Below w.heap.size w (w.alloc (.cells #[.int .i64 xk,.string xt,.slice xp xl xc,.int .i64 aP] 56)):=bA (Below.refl _ _) _;have h0:=H.out.later bQ;have cI:=hid (aC (B:=B) bQ);have dW:=hid (heap_alloc_new w (.cells #[.int .i64 xk,.string xt,.slice xp xl xc,.int .i64 aP] 56));have dH:w.heap.size≠B:=aa;have hP:=pV h0 iM bg;have cR:=hid hP;clear bQ h0 hP H;go_enter Tryz.func95,Tryz.ntmps95;go_wp2_with (go_at_call 144;with_reducible refine(cR.out).mono ?_);rintro e w1 ⟨rfl,h1,aR⟩;have cm:=hid (cI.out.trans aR);have dJ:=hid (aR.2 _ _ _ dW.out ai dH);have CG:w1.cell? ⟨w.heap.size,0,none⟩=some (.int .i64 xk):=cJ;have lF:w1.cell? ⟨w.heap.size,1,none⟩=some (.string xt):=cJ;have lG:w1.cell? ⟨w.heap.size,2,none⟩=some (.slice xp xl xc):=cJ;have lH:w.heap.size<w1.heap.size:=(Array.getElem?_eq_some_iff.1 dJ.out).1;have dG:=hid (cW h1 ⟨#[98,114,101,97,107]⟩ bg);clear h1 aR cR cI dW;go_wp2_with (go_at_call 44;with_reducible refine(dG.out).mono ?_);rintro e w2 ⟨rfl,h2,hk2⟩;have eD:=hid (cm.out.trans hk2);have fW:=hid (hk2.2 _ _ _ dJ.out ai dH);have eI:=hid (cW h2 ⟨#[10]⟩ bg);clear h2 hk2 dG cm dJ;exact Zf
end
end Go.Proofs.YtjchnliaglecoaaGreatDoor