/- A part of the proof. Conditions: none. -/
import Derived.Test.YtjchnliaglecoaaGreatDoorZz
import Derived.Test.YtjchnliaglecoaaGreatDoorWa
import Derived.Test.YtjchnliaglecoaaGreatDoorShR
import Derived.Deep.RegionHeld3
import Derived.Test.YtjchnliaglecoaaGreatDoorSg0X
import Derived.Test.YtjchnliaglecoaaGreatDoorQr
set_option linter.unusedVariables false
set_option linter.unusedSimpArgs false
set_option maxRecDepth 100000
set_option maxHeartbeats 8000000
namespace Go.Proofs.YtjchnliaglecoaaGreatDoor
open Go Go.RowKit Go.Nodes Go.Am
def aI (W0:World) (B:Nat) (S:Value) (u:ByteArray) (z:Int) (w:World) (e:Ending) (w':World):Prop:=e=.returned (.tuple #[])∧Wr W0 B S u z w'∧Kp B w w'
def lA (l:List ByteArray) (i:Nat):ByteArray:=l.getD i ⟨#[]⟩
theorem uT:∀d,(⟨(Lib.repeatL [32,32] d).toArray⟩:ByteArray)=bP d
 |0=>rfl
 |d+1=>by
  rw [Lib.repeatL_add,bP,←uT d];apply ByteArray.ext;simp [Lib.repeatL]
theorem tA {W0 w:World} {B:Nat} {S:Value} {u:ByteArray} {z:Int} (h:Wr W0 B S u z w) (l:List ByteArray) (b c:Nat) (hb:w.heap[b]?=some (.cells (l.map Value.string).toArray 9 (0,0))) (pE:b≠B) (hl:l.length≤1000) (hlen:u.size+(bt (lA l) l.length).size≤1000000000):
  Calls Tryz.prog 44 #[.pointer (some ⟨B,0,none⟩),.slice (some ⟨b,0,none⟩) l.length c] w (aI W0 B S (u++bt (lA l) l.length) z w):=by
 have hl2:(l.length:Int)≤1000:=aa;have hlt:B<w.heap.size:=h.size;go_enter Tryz.func44,Tryz.ntmps44;go_wp2;go_loopw [5,8] (fun sv iv wr=>∃i:Nat,i≤l.length∧iv=.int .i64 (i:Int)∧Hid (Wr W0 B S (u++bt (lA l) i) z wr∧Kp B w wr)) (fun _ iv _=>l.length - (intOf iv).toNat)
 case atStart=>exact⟨0,Nat.zero_le _,rfl,hid ⟨by rw [show bt (lA l) 0=(⟨#[]⟩:ByteArray) from rfl,fJ];exact h,Kp.refl _ _⟩⟩
 case round=>
  obtain⟨i,hi,rfl,hst⟩:=hrel;by_cases uH:i<l.length
  ·have h1:(i:Int)<(l.length:Int):=by omega
   obtain⟨hw,hk⟩:=hst.out;have hc:wr.cell? ⟨b,i,none⟩=some (.string (lA l i)):=by
    rw [Lib.cell_of_heap (hk.2 b _ _ hb ai pE)];simp [lA,List.getD,List.getElem?_eq_getElem uH]
   have hbl:b<wr.heap.size:=(Array.getElem?_eq_some_iff.1 (hk.2 b _ _ hb ai pE)).1;have hm:=tB (lA l) (i+1) l.length aa;have hsz:(u++bt (lA l) i).size+(lA l i).size≤1000000000:=by
    rw [bt] at hm;simp only [ByteArray.size_append] at hm ⊢;omega
   have HW:=hid (Mv hw (lA l i) hsz);have HK:=hid hk;have HLT:=hid hlt;clear hst hw hk hb h hlen hm hsz hlt;generalize hs:lA l i=s at*;have HS:=hid hs;clear hs;go_wp2_with (go_at_call 52;refine(HW.out).mono ?_);rintro e w2 ⟨rfl,h2,hk2⟩;have H2:=hid (And.intro h2 (HK.out.trans hk2));clear h2 hk2;go_wp2;refine⟨⟨i+1,by omega,by go_num,hid ⟨?_,H2.out.2⟩⟩,by simp [intOf];omega⟩;rw [bt,HS.out,←ByteArray.append_assoc];exact H2.out.1
  ·obtain rfl:i=l.length:=by omega
   go_wp2;go_end0;exact⟨rfl,hst.out.1,hst.out.2⟩
section
variable {W0 w:World} {B:Nat} {S:Value} {u:ByteArray} {z:Int} (h:Wr W0 B S u z w)
include h
theorem tC (l:List ByteArray) (c:Nat) (T:ByteArray) (hT:bt (lA l) l.length=T) (hl:l.length≤1000) (hlen:u.size+T.size≤1000000000):
  Calls Tryz.prog 44 #[.pointer (some ⟨B,0,none⟩),.slice (some ⟨w.heap.size,0,none⟩) l.length c] (w.alloc (.cells (l.map Value.string).toArray 9)) (aI W0 B S (u++T) z w):=by
 have zq:=h;clear zq
 subst hT;have hb:Below w.heap.size w (w.alloc (.cells (l.map Value.string).toArray 9)):=(Below.refl _ _).alloc (Nat.le_refl _) _;have:=h.size;refine(tA (h.later hb) l w.heap.size c (heap_alloc_new _ _) aa hl hlen).mono fun e w' ⟨h1,h2,h3⟩=>⟨h1,h2,G8 hb h3⟩
theorem cW (s:ByteArray) (hlen:u.size+s.size≤1000000000):
  Calls Tryz.prog 44 #[.pointer (some ⟨B,0,none⟩),.slice (some ⟨w.heap.size,0,none⟩) 1 1] (w.alloc (.cells #[.string s] 9)) (aI W0 B S (u++s) z w):=have _:=h;
 tC h [s] 1 s (by show(⟨#[]⟩:ByteArray)++s=s;exact ju s) ak hlen
theorem Mw (s t:ByteArray) (hlen:u.size+(s++t).size≤1000000000):
  Calls Tryz.prog 44 #[.pointer (some ⟨B,0,none⟩),.slice (some ⟨w.heap.size,0,none⟩) 2 2] (w.alloc (.cells #[.string s,.string t] 9)) (aI W0 B S (u++(s++t)) z w):=have _:=h;
 tC h [s,t] 2 (s++t) (by show(⟨#[]⟩:ByteArray)++s++t=s++t;rw [ju]) ak hlen
theorem ajd (s t v:ByteArray) (hlen:u.size+(s++t++v).size≤1000000000):
  Calls Tryz.prog 44 #[.pointer (some ⟨B,0,none⟩),.slice (some ⟨w.heap.size,0,none⟩) 3 3] (w.alloc (.cells #[.string s,.string t,.string v] 9)) (aI W0 B S (u++(s++t++v)) z w):=have _:=h;
 tC h [s,t,v] 3 (s++t++v) (by show(⟨#[]⟩:ByteArray)++s++t++v=s++t++v;rw [ju]) ak hlen
theorem ajv (s t v x y:ByteArray) (hlen:u.size+(s++t++v++x++y).size≤1000000000):
  Calls Tryz.prog 44 #[.pointer (some ⟨B,0,none⟩),.slice (some ⟨w.heap.size,0,none⟩) 5 5] (w.alloc (.cells #[.string s,.string t,.string v,.string x,.string y] 9)) (aI W0 B S (u++(s++t++v++x++y)) z w):=have _:=h;
 tC h [s,t,v,x,y] 5 (s++t++v++x++y) (by show(⟨#[]⟩:ByteArray)++s++t++v++x++y=s++t++v++x++y;rw [ju]) ak hlen
theorem ajw:Calls Tryz.prog 44 #[.pointer (some ⟨B,0,none⟩),.slice none 0 0] w (aI W0 B S u z w):=by
 have zq:=h;clear zq
 go_enter Tryz.func44,Tryz.ntmps44;go_wp2;go_loopw [8] (fun iv wr=>iv=.int .i64 0∧wr=w) (fun _ _=>0)
 case atStart=>exact⟨rfl,rfl⟩
 case round=>
  obtain⟨rfl,rfl⟩:=hrel;go_wp2;go_end0;exact⟨rfl,h,Kp.refl _ _⟩
end
theorem pV {W0 w:World} {B:Nat} {S:Value} {u:ByteArray} {d:Nat} (h:Wr W0 B S u (d:Int) w) (hd:d≤2000) (hlen:u.size+(bP d).size≤1000000000):
  Calls Tryz.prog 144 #[.pointer (some ⟨B,0,none⟩),.slice none 0 0] w (aI W0 B S (u++bP d) (d:Int) w):=by
 have c3:=h.Bt;have hlt:=h.size;have HR:∀W,Calls Tryz.prog 194 #[.string ⟨#[32,32]⟩,.int .i64 (d:Int)] W fun e w'=>e=.returned (.string (bP d))∧Below W.heap.size W w':=fun W=>by
  exact Mx
 have HRP:=hid HR;have H:=hid h;clear HR h;generalize hs:bP d=s at*;clear hs;go_enter Tryz.func144,Tryz.ntmps144;go_wp2_with (go_at_call 194;refine(HRP.out _).mono ?_);rintro e w1 ⟨rfl,hb1⟩;have H1:=H.out.later hb1;have dG:=hid (cW H1 s hlen);have cm:=hid (aC (B:=B) hb1);clear H1 hb1 HRP c3 hlt H;go_wp2_with (go_at_call 44;refine(dG.out).mono ?_);rintro e w2 ⟨rfl,h2,hk2⟩;have eI:=hid (ajw h2);have eD:=hid (cm.out.trans hk2);clear h2 hk2;go_wp2_with (go_at_call 44;refine(eI.out).mono ?_);rintro e w3 ⟨rfl,h3,hk3⟩;have HF:=hid (And.intro h3 (eD.out.trans hk3));clear h3 hk3;exact qD
theorem Bu {W0 w:World} {B:Nat} {S:Value} {u:ByteArray} {d:Nat} (h:Wr W0 B S u (d:Int) w) (hd:d≤2000) (t:ByteArray) (hlen:u.size+(bP d++t).size≤1000000000):
  Calls Tryz.prog 144 #[.pointer (some ⟨B,0,none⟩),.slice (some ⟨w.heap.size,0,none⟩) 1 1] (w.alloc (.cells #[.string t] 9)) (aI W0 B S (u++(bP d++t)) (d:Int) w):=by
 have hlt:=h.size;have hb0:Below w.heap.size w (w.alloc (.cells #[.string t] 9)):=(Below.refl _ _).alloc (Nat.le_refl _) _;have hA:=h.later hb0;have c3:=hA.Bt;have hrow:=heap_alloc_new w (.cells #[.string t] 9);have HR:∀W,Calls Tryz.prog 194 #[.string ⟨#[32,32]⟩,.int .i64 (d:Int)] W fun e w'=>e=.returned (.string (bP d))∧Below W.heap.size W w':=fun W=>by
  exact Mx
 have HRP:=hid HR;have HA:=hid hA;have cI:=hid (aC (B:=B) hb0);have agj:=hid hrow;have pE:w.heap.size≠B:=aa;rw [ByteArray.size_append] at hlen;generalize hs:bP d=s at*;generalize (w.alloc (.cells #[.string t] 9))=w0 at*;generalize w.heap.size=b at*;clear HR h hs hA hrow hb0 hlt;have hbl:B<w0.heap.size:=HA.out.size;go_enter Tryz.func144,Tryz.ntmps144;go_wp2_with (go_at_call 194;refine(HRP.out _).mono ?_);rintro e w1 ⟨rfl,hb1⟩;have H1:=HA.out.later hb1;have dG:=hid (cW H1 s aa);have cm:=hid (cI.out.trans (aC (B:=B) hb1));have agk:=hid (mI agj.out hb1);clear H1 hb1 HRP c3 cI agj;go_wp2_with (go_at_call 44;refine(dG.out).mono ?_);rintro e w2 ⟨rfl,h2,hk2⟩;have eI:=hid (tA h2 [t] b 1 (hk2.2 b _ _ agk.out ai pE) pE ak (by
  have e1:bt (lA [t]) [t].length=t:=by show(⟨#[]⟩:ByteArray)++t=t;exact ju t
  rw [e1,ByteArray.size_append];omega))
 have eD:=hid (cm.out.trans hk2);clear h2 hk2;go_wp2_with (go_at_call 44;refine(eI.out).mono ?_);rintro e w3 ⟨rfl,h3,hk3⟩;have e1:bt (lA [t]) [t].length=t:=by show(⟨#[]⟩:ByteArray)++t=t;exact ju t
 rw [e1,ByteArray.append_assoc] at h3;have HF:=hid (And.intro h3 (eD.out.trans hk3));clear h3 hk3 e1;exact qD
end Go.Proofs.YtjchnliaglecoaaGreatDoor
/- A part of the proof. Conditions: none. -/
set_option maxRecDepth 100000
set_option maxHeartbeats 8000000
namespace Go.Proofs.YtjchnliaglecoaaGreatDoor
open Go Go.RowKit Go.Nodes
def RE (p:Option Addr) (c:Nat) (ns:List Nd) (W:World) (E:Int→Nat→ByteArray) (N:Nat):Prop:=∀(k:Int) (d:Nat) (W':World),Below W.heap.size W W'→0≤k→k<N→(d:Int)+k≤2000→(E k d).size≤1000000000→
 Calls Tryz.prog 150 #[.slice p ns.length c,.int .i64 k,.int .i64 (d:Int)] W' fun e w'=>e=.returned (.string (E k d))∧Below W'.heap.size W' w'
def RK (p:Option Addr) (c:Nat) (ns:List Nd) (W:World) (K:Int→ByteArray) (N:Nat):Prop:=∀(k:Int) (W':World),Below W.heap.size W W'→0≤k→k<N→(K k).size≤1000000000→
 Calls Tryz.prog 201 #[.slice p ns.length c,.int .i64 k] W' fun e w'=>e=.returned (.string (K k))∧Below W'.heap.size W' w'
def RS (p:Option Addr) (c:Nat) (ns:List Nd) (W:World) (S:Int→Nat→ByteArray) (N:Nat):Prop:=∀(k:Int) (d:Nat) (W':World),Below W.heap.size W W'→0≤k→k<N→(d:Int)+k≤2000→(S k d).size≤1000000000→
 Calls Tryz.prog 97 #[.slice p ns.length c,.int .i64 k,.int .i64 (d:Int)] W' fun e w'=>e=.returned (.string (S k d))∧Below W'.heap.size W' w'
theorem bL {W w:World} {p:Option Addr} {ns:List Nd} (h:aA W p ns) (hb:Below W.heap.size W w) {i:Nat} (hi:i<ns.length):∃b o,p=some ⟨b,o,none⟩∧b<w.heap.size∧
  w.cell? ⟨b,o+i*4,none⟩=some (.int .i64 ns[i].kind)∧w.cell? ⟨b,o+i*4+1,none⟩=some (.string ns[i].text)∧
  w.cell? ⟨b,o+i*4+2,none⟩=some (.slice ns[i].kp ns[i].kids.length ns[i].aG)∧w.cell? ⟨b,o+i*4+3,none⟩=some (.int .i64 ns[i].place):=by
 obtain⟨b,o,hp,hlt,_,_,h0,h1,h2,h3⟩:=fq h hi;have hs:=hb.size;exact⟨b,o,hp,by omega,(hb.cell (p:=⟨b,_,none⟩) hlt).trans h0,(hb.cell (p:=⟨b,_,none⟩) hlt).trans h1,(hb.cell (p:=⟨b,_,none⟩) hlt).trans h2,(hb.cell (p:=⟨b,_,none⟩) hlt).trans h3⟩
theorem cC {W w:World} {p:Option Addr} {ns:List Nd} (h:aA W p ns) (hb:Below W.heap.size W w) {i:Nat} (hi:i<ns.length) {j:Nat} (hj:j<ns[i].kids.length):∃b o,ns[i].kp=some ⟨b,o,none⟩∧b<w.heap.size∧
  w.cell? ⟨b,o+j,none⟩=some (.int .i64 (ns[i].kids.getD j 0)):=by
 obtain⟨b,o,hp,hlt,h1⟩:=kE (h.2.1 _ (List.getElem_mem hi)) hj;have hs:=hb.size;exact⟨b,o,hp,by omega,(hb.cell (p:=⟨b,_,none⟩) hlt).trans h1⟩
section
variable {p:Option Addr} {c:Nat} {ns:List Nd} {W:World} (ht:Tr ns) (hN:aA W p ns) {E:Int→Nat→ByteArray} {N:Nat} (aJ:N≤ns.length) (hE:RE p c ns W E N)
include ht hN aJ hE
theorem gN (k r:Int) (d:Nat) (W':World) (hb:Below W.heap.size W W') (h0:0≤k) (h1:k<N) (hd:(d:Int)+k≤2000) (hr:r≤10) (hsz:(bB ns E k r d).size≤1000000000):
  Calls Tryz.prog 204 #[.slice p ns.length c,.int .i64 k,.int .i64 r,.int .i64 (d:Int)] W' fun e w'=>e=.returned (.string (bB ns E k r d))∧Below W'.heap.size W' w':=by
 have zq:=ht;clear zq;have zq:=hN;clear zq;have zq:=aJ;clear zq;have zq:=hE;clear zq
 have K8:=trivial;exact K9
theorem uG (k:Int) (d:Nat) (W':World) (hb:Below W.heap.size W W') (h0:0≤k) (h1:k<N) (hd:(d:Int)+k≤2000) (hsz:(dR ns E k d).size≤1000000000):
  Calls Tryz.prog 202 #[.slice p ns.length c,.int .i64 k,.int .i64 (d:Int)] W' fun e w'=>e=.returned (.string (dR ns E k d))∧Below W'.heap.size W' w':=by
 have zq:=ht;clear zq;have zq:=hN;clear zq;have zq:=aJ;clear zq;have zq:=hE;clear zq
 have La:=trivial;exact K9
omit ht hN in
theorem pM (ks:List Int) (kp:Option Addr) (kc d:Nat) (W':World) (hb:Below W.heap.size W W') (hI:bC W kp ks) (hk:∀k∈ks,0≤k∧k<N∧(d:Int)+k≤2000) (gq:ks.length≤10000) (hsz:(dL E ks d).size≤1000000000):
  Calls Tryz.prog 203 #[.slice p ns.length c,.slice kp ks.length kc,.int .i64 (d:Int)] W' fun e w'=>e=.returned (.string (dL E ks d))∧Below W'.heap.size W' w':=by
 have zq:=aJ;clear zq;have zq:=hE;clear zq
 have aj:∀i,i≤ks.length→(jt ⟨#[44,32]⟩ (fun i=>E (ks.getD i 0) d) i).size≤1000000000:=fun i hi=>Nat.le_trans (jo _ _ i _ hi) hsz
 have hC:∀i (h:i<ks.length) (W2:World),Below W.heap.size W W2→Calls Tryz.prog 150 #[.slice p ns.length c,.int .i64 (ks.getD i 0),.int .i64 (d:Int)] W2 fun e w'=>e=.returned (.string (E (ks.getD i 0) d))∧Below W2.heap.size W2 w':=fun i h W2 hb2=>by
  have hm:ks.getD i 0∈ks:=by simp [List.getD,List.getElem?_eq_getElem h]
  obtain⟨h0,h1,h2⟩:=hk _ hm;refine hE _ d W2 hb2 h0 h1 h2 ?_;have:=aj (i+1) h;rw [jt] at this;split at this<;>simp only [ByteArray.size_append] at this<;>omega
 have HC:=hid hC;have HS:=hid aj;have HB:=hid hb;unfold dL;have Lb:(ks.length:Int)≤10000:=aa;have HI:=hid hI;clear hC aj hb hsz hk gq hE hI;go_enter Tryz.func203,Tryz.ntmps203;go_wp2;go_loopw [7,12] (fun sv iv wr=>∃(i:Nat) (g:fk),i≤ks.length∧sv=.string (jt ⟨#[44,32]⟩ (fun i=>E (ks.getD i 0) d) i)∧iv=.int .i64 (i:Int)∧wr=grow W' g) (fun _ iv _=>ks.length - (intOf iv).toNat)
 case atStart=>obtain⟨g0,hg0⟩:=ay (Below.refl W'.heap.size W');exact⟨0,g0,Nat.zero_le _,rfl,rfl,hg0⟩
 case round=>
  obtain⟨i,g,hi,rfl,rfl,rfl⟩:=hrel;by_cases di:i<ks.length
  ·rcases HI.out with h0|⟨b,o,rfl,hlt,hc⟩
   ·rw [h0] at di;simp at di
   have hs:=HB.out.size;have uH:b<W'.heap.size:=aa;have hcell:W'.cell? ⟨b,o+i,none⟩=some (.int .i64 (ks.getD i 0)):=by
    rw [HB.out.cell (p:=⟨b,_,none⟩) hlt,hc i di];simp [List.getD,List.getElem?_eq_getElem di]
   have h1:(i:Int)<(ks.length:Int):=aa;have hstep:jt ⟨#[44,32]⟩ (fun i=>E (ks.getD i 0) d) (i+1)=(if 0<i then jt ⟨#[44,32]⟩ (fun i=>E (ks.getD i 0) d) i++⟨#[44,32]⟩ else jt ⟨#[44,32]⟩ (fun i=>E (ks.getD i 0) d) i)++E (ks.getD i 0) d:=rfl;have hz0:=HS.out i hi;have hz1:=HS.out (i+1) di;have wm:=hid (HC.out i di);rw [hstep] at hz1;have sR:=hid hstep;clear hstep HC HS HI hc hs hlt;generalize jt ⟨#[44,32]⟩ (fun i=>E (ks.getD i 0) d) i=T at*;generalize ks.getD i 0=q at*;by_cases nR:0<i
   ·have Jc:(0:Int)<(i:Int):=by omega
    rw [if_pos nR] at hz1;simp only [ByteArray.size_append] at hz1;have hz2:(⟨#[44,32]⟩:ByteArray).size=2:=rfl;rw [hz2] at hz1;go_wp2_with (first|(go_at_call 150;(with_reducible refine(wm.out _ (bG HB.out _)).mono ?_);rintro e w' ⟨rfl,hb1⟩;obtain⟨G,rfl⟩:=ay hb1;clear hb1));refine⟨⟨i+1,_,by omega, ?_,by go_num,rfl⟩,by simp [intOf];omega⟩;rw [sR.out,if_pos nR]
   ·have Jc:(i:Int)≤0:=by omega
    rw [if_neg nR] at hz1;simp only [ByteArray.size_append] at hz1;go_wp2_with (first|(go_at_call 150;(with_reducible refine(wm.out _ (bG HB.out _)).mono ?_);rintro e w' ⟨rfl,hb1⟩;obtain⟨G,rfl⟩:=ay hb1;clear hb1));refine⟨⟨i+1,_,by omega, ?_,by go_num,rfl⟩,by simp [intOf];omega⟩;rw [sR.out,if_neg nR]
  ·obtain rfl:i=ks.length:=by omega
   go_wp2;exact zb
end
end Go.Proofs.YtjchnliaglecoaaGreatDoor
/- A part of the proof. Conditions: none. -/
set_option maxRecDepth 100000
set_option maxHeartbeats 8000000
namespace Go.Proofs.YtjchnliaglecoaaGreatDoor
open Go Go.RowKit Go.Nodes Go.Am
def aam (w:World) (e:Ending) (w':World):Prop:=∃b0 b1 b2 b3 b4 b5:Nat,e=.returned (.agg #[.slice (some ⟨b0,0,none⟩) 0 0,.slice (some ⟨b1,0,none⟩) 0 0,.slice (some ⟨b2,0,none⟩) 6 6,.slice (some ⟨b3,0,none⟩) 1 1,.slice (some ⟨b4,0,none⟩) 2 2,.slice (some ⟨b5,0,none⟩) 3 3])∧Below w.heap.size w w'
 ∧w'.heap[b2]?=some (.cells #[.string ⟨#[61,61]⟩,.string ⟨#[126,61]⟩,.string ⟨#[60]⟩,.string ⟨#[60,61]⟩,.string ⟨#[62]⟩,.string ⟨#[62,61]⟩] 9 (0,0))∧w'.heap[b3]?=some (.cells #[.string ⟨#[46,46]⟩] 9 (0,0))∧w'.heap[b4]?=some (.cells #[.string ⟨#[43]⟩,.string ⟨#[45]⟩] 9 (0,0))∧w'.heap[b5]?=some (.cells #[.string ⟨#[42]⟩,.string ⟨#[47,47]⟩,.string ⟨#[37]⟩] 9 (0,0))
theorem dO {w:World} {o o':Obj} {k:Nat} (h:w.heap[k]?=some o):(w.alloc o').heap[k]?=some o:=by
 have hlt:=(Array.getElem?_eq_some_iff.1 h).1;rw [((Below.refl w.heap.size w).alloc (Nat.le_refl _) o').block k hlt];exact h
theorem eE (w:World):Calls Tryz.prog 261 #[] w (aam w):=by
 go_enter Tryz.func261,Tryz.ntmps261;go_wp2;refine bodyPost_ret (v:=.agg #[.slice (some ⟨w.heap.size+1,0,none⟩) 0 0,.slice (some ⟨w.heap.size+1+1,0,none⟩) 0 0,.slice (some ⟨w.heap.size+1+1+1,0,none⟩) 6 6,.slice (some ⟨w.heap.size+1+1+1+1,0,none⟩) 1 1,.slice (some ⟨w.heap.size+1+1+1+1+1,0,none⟩) 2 2,.slice (some ⟨w.heap.size+1+1+1+1+1+1,0,none⟩) 3 3]) ?_ rfl ?_
 ·simp [results,Tryz.results261,go_sem]
 ·refine⟨_,_,_,_,_,_,rfl,by repeat (first|exact Below.refl _ _|refine bA ?_ _), ?_, ?_, ?_, ?_⟩
  ·refine dO (dO (dO ?_));have:=fun W:World=>heap_alloc_new W (.cells #[.string ⟨#[61,61]⟩,.string ⟨#[126,61]⟩,.string ⟨#[60]⟩,.string ⟨#[60,61]⟩,.string ⟨#[62]⟩,.string ⟨#[62,61]⟩] 9)
   simpa using this (((w.alloc _).alloc _).alloc _)
  ·refine dO (dO ?_);have:=fun W:World=>heap_alloc_new W (.cells #[.string ⟨#[46,46]⟩] 9)
   simpa using this ((((w.alloc _).alloc _).alloc _).alloc _)
  ·refine dO ?_;have:=fun W:World=>heap_alloc_new W (.cells #[.string ⟨#[43]⟩,.string ⟨#[45]⟩] 9)
   simpa using this (((((w.alloc _).alloc _).alloc _).alloc _).alloc _)
  ·have:=fun W:World=>heap_alloc_new W (.cells #[.string ⟨#[42]⟩,.string ⟨#[47,47]⟩,.string ⟨#[37]⟩] 9)
   simpa using this ((((((w.alloc _).alloc _).alloc _).alloc _).alloc _).alloc _)
@[go_sem] theorem afk (s0 s1 s2 s3 s4 s5 : Value) (w : World) : (Instr.index 236 (.agg #[s0, s1, s2, s3, s4, s5]) (.int .i64 0)).run Tryz.prog w = .ok s0 w := by kernel_rfl
@[go_sem] theorem afl (s0 s1 s2 s3 s4 s5 : Value) (w : World) : (Instr.index 236 (.agg #[s0, s1, s2, s3, s4, s5]) (.int .i64 1)).run Tryz.prog w = .ok s1 w := by kernel_rfl
@[go_sem] theorem afm (s0 s1 s2 s3 s4 s5 : Value) (w : World) : (Instr.index 236 (.agg #[s0, s1, s2, s3, s4, s5]) (.int .i64 2)).run Tryz.prog w = .ok s2 w := by kernel_rfl
@[go_sem] theorem afn (s0 s1 s2 s3 s4 s5 : Value) (w : World) : (Instr.index 236 (.agg #[s0, s1, s2, s3, s4, s5]) (.int .i64 3)).run Tryz.prog w = .ok s3 w := by kernel_rfl
@[go_sem] theorem afo (s0 s1 s2 s3 s4 s5 : Value) (w : World) : (Instr.index 236 (.agg #[s0, s1, s2, s3, s4, s5]) (.int .i64 4)).run Tryz.prog w = .ok s4 w := by kernel_rfl
@[go_sem] theorem afp (s0 s1 s2 s3 s4 s5 : Value) (w : World) : (Instr.index 236 (.agg #[s0, s1, s2, s3, s4, s5]) (.int .i64 5)).run Tryz.prog w = .ok s5 w := by kernel_rfl
section
variable {p:Option Addr} {c:Nat} {ns:List Nd} {W0 w:World} {B:Nat} {u:ByteArray} {z:Int} (ht:Tr ns) (hN:aA W0 p ns) (hW:Wr W0 B (.slice p ns.length c) u z w)
include ht hN hW
theorem CI (m:Nat) (hm:m<ns.length) (hk:ns[m].kind=30):
  Calls Tryz.prog 237 #[.pointer (some ⟨B,0,none⟩),.int .i64 (m:Int)] w fun e w'=>e=.returned (.int .i64 (aH ns[m].kind ns[m].text.toList))∧Below w.heap.size w w':=by
 have zq:=ht;clear zq;have zq:=hN;clear zq;have zq:=hW;clear zq
 exact Jl
theorem CJ (m:Nat) (hm:m<ns.length) (hk:ns[m].kind=29):
  Calls Tryz.prog 237 #[.pointer (some ⟨B,0,none⟩),.int .i64 (m:Int)] w fun e w'=>e=.returned (.int .i64 (aH ns[m].kind ns[m].text.toList))∧Below w.heap.size w w':=by
 have zq:=ht;clear zq;have zq:=hN;clear zq;have zq:=hW;clear zq
 exact Jl
theorem CK (m:Nat) (hm:m<ns.length) (hk:ns[m].kind=28):
  Calls Tryz.prog 237 #[.pointer (some ⟨B,0,none⟩),.int .i64 (m:Int)] w fun e w'=>e=.returned (.int .i64 (aH ns[m].kind ns[m].text.toList))∧Below w.heap.size w w':=by
 have zq:=ht;clear zq;have zq:=hN;clear zq;have zq:=hW;clear zq
 exact Jl
theorem yz (m:Nat) (hm:m<ns.length) (hk:ns[m].kind ∉ [30,29,28,27]):
  Calls Tryz.prog 237 #[.pointer (some ⟨B,0,none⟩),.int .i64 (m:Int)] w fun e w'=>e=.returned (.int .i64 (aH ns[m].kind ns[m].text.toList))∧Below w.heap.size w w':=by
 have zq:=ht;clear zq;have zq:=hN;clear zq;have zq:=hW;clear zq
 obtain⟨b,o,hp,hlt,c0,c1,c2,c3⟩:=bL hN hW.below hm;have hl:(m:Int)<(ns.length:Int):=aa;have hBl:=hW.size;have hcw:=hW.cell0;simp only [List.mem_cons,not_or,List.not_mem_nil,not_false_eq_true,and_true] at hk;obtain⟨Jm,Jn,Jo,Jp⟩:=hk;have e30:(ns[m].kind==30)=false:=by simp [Jm]
 have e29:(ns[m].kind==29)=false:=by simp [Jn]
 have e28:(ns[m].kind==28)=false:=by simp [Jo]
 have e27:(ns[m].kind==27)=false:=by simp [Jp]
 have hr:aH ns[m].kind ns[m].text.toList=8:=by unfold aH;rw [if_neg Jm,if_neg Jn,if_neg Jo,if_neg Jp]
 rw [hr];clear hr Jm Jn Jo Jp;clear hW hN ht;generalize ns[m]=x at*;obtain⟨xk,xt,xp,xc,aK,aP⟩:=x;simp only at c0 c1 c2 c3 e30 e29 e28 e27 ⊢;subst hp;clear hm;generalize ns.length=L at*;generalize aK.length=xl at*;exact Xk
theorem tK (m:Nat) (hm:m<ns.length) (hk:ns[m].kind=27) (hx:ns[m].text=⟨#[61,61]⟩):
  Calls Tryz.prog 237 #[.pointer (some ⟨B,0,none⟩),.int .i64 (m:Int)] w fun e w'=>e=.returned (.int .i64 (aH ns[m].kind ns[m].text.toList))∧Below w.heap.size w w':=by
 have zq:=ht;clear zq;have zq:=hN;clear zq;have zq:=hW;clear zq
 have QW:=trivial;exact sN
theorem tL (m:Nat) (hm:m<ns.length) (hk:ns[m].kind=27) (hx:ns[m].text=⟨#[126,61]⟩):
  Calls Tryz.prog 237 #[.pointer (some ⟨B,0,none⟩),.int .i64 (m:Int)] w fun e w'=>e=.returned (.int .i64 (aH ns[m].kind ns[m].text.toList))∧Below w.heap.size w w':=by
 have zq:=ht;clear zq;have zq:=hN;clear zq;have zq:=hW;clear zq
 have QX:=trivial;exact sN
theorem tM (m:Nat) (hm:m<ns.length) (hk:ns[m].kind=27) (hx:ns[m].text=⟨#[60]⟩):
  Calls Tryz.prog 237 #[.pointer (some ⟨B,0,none⟩),.int .i64 (m:Int)] w fun e w'=>e=.returned (.int .i64 (aH ns[m].kind ns[m].text.toList))∧Below w.heap.size w w':=by
 have zq:=ht;clear zq;have zq:=hN;clear zq;have zq:=hW;clear zq
 have QY:=trivial;exact sN
theorem tN (m:Nat) (hm:m<ns.length) (hk:ns[m].kind=27) (hx:ns[m].text=⟨#[60,61]⟩):
  Calls Tryz.prog 237 #[.pointer (some ⟨B,0,none⟩),.int .i64 (m:Int)] w fun e w'=>e=.returned (.int .i64 (aH ns[m].kind ns[m].text.toList))∧Below w.heap.size w w':=by
 have zq:=ht;clear zq;have zq:=hN;clear zq;have zq:=hW;clear zq
 have QZ:=trivial;exact sN
theorem tO (m:Nat) (hm:m<ns.length) (hk:ns[m].kind=27) (hx:ns[m].text=⟨#[62]⟩):
  Calls Tryz.prog 237 #[.pointer (some ⟨B,0,none⟩),.int .i64 (m:Int)] w fun e w'=>e=.returned (.int .i64 (aH ns[m].kind ns[m].text.toList))∧Below w.heap.size w w':=by
 have zq:=ht;clear zq;have zq:=hN;clear zq;have zq:=hW;clear zq
 have Q0:=trivial;exact sN
theorem tP (m:Nat) (hm:m<ns.length) (hk:ns[m].kind=27) (hx:ns[m].text=⟨#[62,61]⟩):
  Calls Tryz.prog 237 #[.pointer (some ⟨B,0,none⟩),.int .i64 (m:Int)] w fun e w'=>e=.returned (.int .i64 (aH ns[m].kind ns[m].text.toList))∧Below w.heap.size w w':=by
 have zq:=ht;clear zq;have zq:=hN;clear zq;have zq:=hW;clear zq
 have Q2:=trivial;exact sN
theorem tQ (m:Nat) (hm:m<ns.length) (hk:ns[m].kind=27) (hx:ns[m].text=⟨#[46,46]⟩):
  Calls Tryz.prog 237 #[.pointer (some ⟨B,0,none⟩),.int .i64 (m:Int)] w fun e w'=>e=.returned (.int .i64 (aH ns[m].kind ns[m].text.toList))∧Below w.heap.size w w':=by
 have zq:=ht;clear zq;have zq:=hN;clear zq;have zq:=hW;clear zq
 have Q3:=trivial;exact sN
theorem tR (m:Nat) (hm:m<ns.length) (hk:ns[m].kind=27) (hx:ns[m].text=⟨#[43]⟩):
  Calls Tryz.prog 237 #[.pointer (some ⟨B,0,none⟩),.int .i64 (m:Int)] w fun e w'=>e=.returned (.int .i64 (aH ns[m].kind ns[m].text.toList))∧Below w.heap.size w w':=by
 have zq:=ht;clear zq;have zq:=hN;clear zq;have zq:=hW;clear zq
 have Q4:=trivial;exact sN
theorem tS (m:Nat) (hm:m<ns.length) (hk:ns[m].kind=27) (hx:ns[m].text=⟨#[45]⟩):
  Calls Tryz.prog 237 #[.pointer (some ⟨B,0,none⟩),.int .i64 (m:Int)] w fun e w'=>e=.returned (.int .i64 (aH ns[m].kind ns[m].text.toList))∧Below w.heap.size w w':=by
 have zq:=ht;clear zq;have zq:=hN;clear zq;have zq:=hW;clear zq
 have Q5:=trivial;exact sN
theorem tT (m:Nat) (hm:m<ns.length) (hk:ns[m].kind=27) (hx:ns[m].text=⟨#[42]⟩):
  Calls Tryz.prog 237 #[.pointer (some ⟨B,0,none⟩),.int .i64 (m:Int)] w fun e w'=>e=.returned (.int .i64 (aH ns[m].kind ns[m].text.toList))∧Below w.heap.size w w':=by
 have zq:=ht;clear zq;have zq:=hN;clear zq;have zq:=hW;clear zq
 have Jq:=trivial;exact sN
theorem tU (m:Nat) (hm:m<ns.length) (hk:ns[m].kind=27) (hx:ns[m].text=⟨#[47,47]⟩):
  Calls Tryz.prog 237 #[.pointer (some ⟨B,0,none⟩),.int .i64 (m:Int)] w fun e w'=>e=.returned (.int .i64 (aH ns[m].kind ns[m].text.toList))∧Below w.heap.size w w':=by
 have zq:=ht;clear zq;have zq:=hN;clear zq;have zq:=hW;clear zq
 have Jr:=trivial;exact sN
theorem tV (m:Nat) (hm:m<ns.length) (hk:ns[m].kind=27) (hx:ns[m].text=⟨#[37]⟩):
  Calls Tryz.prog 237 #[.pointer (some ⟨B,0,none⟩),.int .i64 (m:Int)] w fun e w'=>e=.returned (.int .i64 (aH ns[m].kind ns[m].text.toList))∧Below w.heap.size w w':=by
 have zq:=ht;clear zq;have zq:=hN;clear zq;have zq:=hW;clear zq
 have Js:=trivial;exact sN
theorem yA (m:Nat) (hm:m<ns.length):
  Calls Tryz.prog 237 #[.pointer (some ⟨B,0,none⟩),.int .i64 (m:Int)] w fun e w'=>e=.returned (.int .i64 (aH ns[m].kind ns[m].text.toList))∧Below w.heap.size w w':=by
 have zq:=ht;clear zq;have zq:=hN;clear zq;have zq:=hW;clear zq
 by_cases Xl:ns[m].kind=30
 ·exact CI ht hN hW m hm Xl
 by_cases Xm:ns[m].kind=29
 ·exact CJ ht hN hW m hm Xm
 by_cases Xn:ns[m].kind=28
 ·exact CK ht hN hW m hm Xn
 by_cases wQ:ns[m].kind=27
 ·have hv:=(ht.all m ns[m] hm (List.getElem?_eq_getElem hm)).text;rw [wQ] at hv;have hb:iK.contains ns[m].text.data.toList=true:=hv;have key:∀l:List UInt8,ns[m].text.data.toList=l→ns[m].text=⟨l.toArray⟩:=fun l h=>by
   cases hx:ns[m].text with
   |mk d=>rw [hx] at h;rw [←h]
  simp only [iK,List.contains_cons,List.contains_nil,Bool.or_eq_true,beq_iff_eq,Bool.or_false] at hb;rcases hb with h|h|h|h|h|h|h|h|h|h|h|h
  ·exact tR ht hN hW m hm wQ (key _ h)
  ·exact tS ht hN hW m hm wQ (key _ h)
  ·exact tT ht hN hW m hm wQ (key _ h)
  ·exact tU ht hN hW m hm wQ (key _ h)
  ·exact tV ht hN hW m hm wQ (key _ h)
  ·exact tQ ht hN hW m hm wQ (key _ h)
  ·exact tK ht hN hW m hm wQ (key _ h)
  ·exact tL ht hN hW m hm wQ (key _ h)
  ·exact tM ht hN hW m hm wQ (key _ h)
  ·exact tN ht hN hW m hm wQ (key _ h)
  ·exact tO ht hN hW m hm wQ (key _ h)
  ·exact tP ht hN hW m hm wQ (key _ h)
 ·exact yz ht hN hW m hm (by simp [Xl,Xm,Xn,wQ])
end
end Go.Proofs.YtjchnliaglecoaaGreatDoor
/- A part of the proof. Conditions: none. -/
set_option maxRecDepth 100000
set_option maxHeartbeats 8000000
namespace Go.Proofs.YtjchnliaglecoaaGreatDoor
open Go Go.RowKit Go.Nodes Go.Am
def WE (p:Option Addr) (c:Nat) (ns:List Nd) (W0:World) (B:Nat) (E:Int→Nat→ByteArray) (N:Nat):Prop:=∀(k:Int) (d:Nat) (u:ByteArray) (w:World),Wr W0 B (.slice p ns.length c) u (d:Int) w→0≤k→k<N→(d:Int)+k≤2000→u.size+(E k d).size≤1000000000→
 Calls Tryz.prog 148 #[.pointer (some ⟨B,0,none⟩),.int .i64 k] w (aI W0 B (.slice p ns.length c) (u++E k d) (d:Int) w)
def WK (p:Option Addr) (c:Nat) (ns:List Nd) (W0:World) (B:Nat) (K:Int→ByteArray) (N:Nat):Prop:=∀(k:Int) (z:Int) (u:ByteArray) (w:World),Wr W0 B (.slice p ns.length c) u z w→0≤k→k<N→u.size+(K k).size≤1000000000→
 Calls Tryz.prog 195 #[.pointer (some ⟨B,0,none⟩),.int .i64 k] w (aI W0 B (.slice p ns.length c) (u++K k) z w)
def WS (p:Option Addr) (c:Nat) (ns:List Nd) (W0:World) (B:Nat) (S:Int→Nat→ByteArray) (N:Nat):Prop:=∀(k:Int) (d:Nat) (u:ByteArray) (w:World),Wr W0 B (.slice p ns.length c) u (d:Int) w→0≤k→k<N→(d:Int)+k≤2000→u.size+(eM S k d).size≤1000000000→
 Calls Tryz.prog 95 #[.pointer (some ⟨B,0,none⟩),.int .i64 k] w (aI W0 B (.slice p ns.length c) (u++eM S k d) (d:Int) w)
section
variable {p:Option Addr} {c:Nat} {ns:List Nd} {W0:World} {B:Nat} (ht:Tr ns) (hN:aA W0 p ns) {E:Int→Nat→ByteArray} {K:Int→ByteArray} {S:Int→Nat→ByteArray} {N:Nat} (aJ:N≤ns.length) (hE:WE p c ns W0 B E N)
include ht hN aJ hE
theorem AD (k:Int) (d:Nat) (is:Bool) (u:ByteArray) (w:World) (h:Wr W0 B (.slice p ns.length c) u (d:Int) w) (h0:0≤k) (h1:k<N) (hd:(d:Int)+k≤2000) (hsz:u.size+(if is then og (E k d) else E k d).size≤1000000000):
  Calls Tryz.prog 236 #[.pointer (some ⟨B,0,none⟩),.int .i64 k,.bool is] w (aI W0 B (.slice p ns.length c) (u++(if is then og (E k d) else E k d)) (d:Int) w):=by
 have zq:=ht;clear zq;have zq:=hN;clear zq;have zq:=aJ;clear zq;have zq:=hE;clear zq
 have hC:=hid (fun(u:ByteArray) (w:World) hw hs=>hE k d u w hw h0 h1 hd hs);clear hE ht hN aJ;generalize E k d=s at*;cases is with
 |false=>
  have aj:u.size+s.size≤1000000000:=hsz;have HP:=hid (hC.out u w h aj);clear hC h hsz;go_enter Tryz.func236,Tryz.ntmps236;go_wp2_with (go_at_call 148;refine(HP.out).mono ?_);rintro e w1 ⟨rfl,h1,aR⟩;have HF:=hid (And.intro h1 aR);clear h1 aR;exact qD
 |true=>
  have aj:u.size+(og s).size≤1000000000:=hsz;rw [lM] at aj;have e1:(⟨#[40]⟩:ByteArray).size=1:=rfl;have HP:=hid (cW h ⟨#[40]⟩ (by rw [e1];omega));clear hsz h;go_enter Tryz.func236,Tryz.ntmps236;go_wp2_with (go_at_call 44;refine(HP.out).mono ?_);rintro e w1 ⟨rfl,h1,aR⟩;have dG:=hid (hC.out _ w1 h1 (by rw [ByteArray.size_append,e1];omega));have cm:=hid aR;clear h1 aR HP hC;go_wp2_with (go_at_call 148;refine(dG.out).mono ?_);rintro e w2 ⟨rfl,h2,hk2⟩;have eI:=hid (cW h2 ⟨#[41]⟩ (by rw [ByteArray.size_append,ByteArray.size_append,e1,show(⟨#[41]⟩:ByteArray).size=1 from rfl];omega));have eD:=hid (cm.out.trans hk2);clear h2 hk2 dG cm;go_wp2_with (go_at_call 44;refine(eI.out).mono ?_);rintro e w3 ⟨rfl,h3,hk3⟩;have HF:=hid (And.intro h3 (eD.out.trans hk3));clear h3 hk3 eI eD;go_wp2;go_end0;refine⟨rfl, ?_,HF.out.2⟩;have:=HF.out.1;simp only [ByteArray.append_assoc] at this;show Wr W0 B _ (u++og s) _ _;unfold og;simp only [ByteArray.append_assoc];exact this
theorem tJ (k r:Int) (d:Nat) (u:ByteArray) (w:World) (h:Wr W0 B (.slice p ns.length c) u (d:Int) w) (h0:0≤k) (h1:k<N) (hd:(d:Int)+k≤2000) (hr:r≤10) (hsz:u.size+(bB ns E k r d).size≤1000000000):
  Calls Tryz.prog 238 #[.pointer (some ⟨B,0,none⟩),.int .i64 k,.int .i64 r] w (aI W0 B (.slice p ns.length c) (u++bB ns E k r d) (d:Int) w):=by
 have zq:=ht;clear zq;have zq:=hN;clear zq;have zq:=aJ;clear zq;have zq:=hE;clear zq
 have Jj:=trivial;exact E7
theorem yy (k:Int) (d:Nat) (u:ByteArray) (w:World) (h:Wr W0 B (.slice p ns.length c) u (d:Int) w) (h0:0≤k) (h1:k<N) (hd:(d:Int)+k≤2000) (hx:oh (aB ns k).toNat=true) (hsz:u.size+(dR ns E k d).size≤1000000000):
  Calls Tryz.prog 198 #[.pointer (some ⟨B,0,none⟩),.int .i64 k] w (aI W0 B (.slice p ns.length c) (u++dR ns E k d) (d:Int) w):=by
 have zq:=ht;clear zq;have zq:=hN;clear zq;have zq:=aJ;clear zq;have zq:=hE;clear zq
 have Jk:=trivial;exact E7
end
end Go.Proofs.YtjchnliaglecoaaGreatDoor
/- A part of the proof. Conditions: none. -/
set_option maxRecDepth 100000
set_option maxHeartbeats 8000000
namespace Go.Proofs.YtjchnliaglecoaaGreatDoor
open Go Go.RowKit Go.Nodes Go.Am
section
variable {p:Option Addr} {c:Nat} {ns:List Nd} {W0:World} {B:Nat}
theorem mR (ks:List Int) (kp:Option Addr) (kc:Nat) (g:Nat→ByteArray) (u:ByteArray) (z:Int) (w:World) (h:Wr W0 B (.slice p ns.length c) u z w) (hI:bC W0 kp ks) (gq:ks.length≤10000)
  (hC:∀i,i<ks.length→∀(u:ByteArray) (w1:World),Wr W0 B (.slice p ns.length c) u z w1→u.size+(g i).size≤1000000000→Calls Tryz.prog 148 #[.pointer (some ⟨B,0,none⟩),.int .i64 (ks.getD i 0)] w1 (aI W0 B (.slice p ns.length c) (u++g i) z w1)) (hsz:u.size+(jt ⟨#[44,32]⟩ g ks.length).size≤1000000000):
  Calls Tryz.prog 196 #[.pointer (some ⟨B,0,none⟩),.slice kp ks.length kc,.func (.func 148) #[.pointer (some ⟨B,0,none⟩)] #[]] w (aI W0 B (.slice p ns.length c) (u++jt ⟨#[44,32]⟩ g ks.length) z w):=by
 have Wj:=trivial;exact Wi
theorem B2 (ks:List Int) (kp:Option Addr) (kc:Nat) (g:Nat→ByteArray) (u:ByteArray) (z:Int) (w:World) (h:Wr W0 B (.slice p ns.length c) u z w) (hI:bC W0 kp ks) (gq:ks.length≤10000)
  (hC:∀i,i<ks.length→∀(u:ByteArray) (w1:World),Wr W0 B (.slice p ns.length c) u z w1→u.size+(g i).size≤1000000000→Calls Tryz.prog 195 #[.pointer (some ⟨B,0,none⟩),.int .i64 (ks.getD i 0)] w1 (aI W0 B (.slice p ns.length c) (u++g i) z w1)) (hsz:u.size+(jt ⟨#[44,32]⟩ g ks.length).size≤1000000000):
  Calls Tryz.prog 196 #[.pointer (some ⟨B,0,none⟩),.slice kp ks.length kc,.func (.func 195) #[.pointer (some ⟨B,0,none⟩)] #[]] w (aI W0 B (.slice p ns.length c) (u++jt ⟨#[44,32]⟩ g ks.length) z w):=by
 have Wk:=trivial;exact Wi
theorem B1 (ks:List Int) (kp:Option Addr) (kc:Nat) (g:Nat→ByteArray) (u:ByteArray) (z:Int) (w:World) (bx:Nat) (sU:w.heap[bx]?=some (.cells #[.pointer (some ⟨B,0,none⟩)] 73 (0,0))) (pE:bx≠B) (h:Wr W0 B (.slice p ns.length c) u z w) (hI:bC W0 kp ks) (gq:ks.length≤10000)
  (hC:∀i,i<ks.length→∀(u:ByteArray) (w1:World),w1.heap[bx]?=some (.cells #[.pointer (some ⟨B,0,none⟩)] 73 (0,0))→Wr W0 B (.slice p ns.length c) u z w1→u.size+(g i).size≤1000000000→Calls Tryz.prog 235 #[.int .i64 (ks.getD i 0),.pointer (some ⟨bx,0,none⟩)] w1 (aI W0 B (.slice p ns.length c) (u++g i) z w1)) (hsz:u.size+(jt ⟨#[44,32]⟩ g ks.length).size≤1000000000):
  Calls Tryz.prog 196 #[.pointer (some ⟨B,0,none⟩),.slice kp ks.length kc,.func (.func 235) #[] #[.pointer (some ⟨bx,0,none⟩)]] w (aI W0 B (.slice p ns.length c) (u++jt ⟨#[44,32]⟩ g ks.length) z w):=by
 have Wl:=trivial;exact Wi
theorem Cc (ks:List Int) (kp:Option Addr) (kc:Nat) (g:Nat→ByteArray) (u:ByteArray) (z:Int) (w:World) (bx:Nat) (sU:w.heap[bx]?=some (.cells #[.pointer (some ⟨B,0,none⟩)] 73 (0,0))) (pE:bx≠B) (h:Wr W0 B (.slice p ns.length c) u z w) (hI:bC W0 kp ks) (gq:ks.length≤10000)
  (hC:∀i,i<ks.length→∀(u:ByteArray) (w1:World),w1.heap[bx]?=some (.cells #[.pointer (some ⟨B,0,none⟩)] 73 (0,0))→Wr W0 B (.slice p ns.length c) u z w1→u.size+(g i).size≤1000000000→Calls Tryz.prog 197 #[.int .i64 (ks.getD i 0),.pointer (some ⟨bx,0,none⟩)] w1 (aI W0 B (.slice p ns.length c) (u++g i) z w1)) (hsz:u.size+(jt ⟨#[44,32]⟩ g ks.length).size≤1000000000):
  Calls Tryz.prog 196 #[.pointer (some ⟨B,0,none⟩),.slice kp ks.length kc,.func (.func 197) #[] #[.pointer (some ⟨bx,0,none⟩)]] w (aI W0 B (.slice p ns.length c) (u++jt ⟨#[44,32]⟩ g ks.length) z w):=by
 have Wm:=trivial;exact Wi
end
end Go.Proofs.YtjchnliaglecoaaGreatDoor
/- A part of the proof. Conditions: none. -/
set_option maxRecDepth 100000
set_option maxHeartbeats 8000000
namespace Go.Proofs.YtjchnliaglecoaaGreatDoor
open Go Go.RowKit Go.Nodes
section
variable {p:Option Addr} {c:Nat} {ns:List Nd} {W:World} (ht:Tr ns) (hN:aA W p ns) {E:Int→Nat→ByteArray} {K:Int→ByteArray} {S:Int→Nat→ByteArray} {N:Nat} (aJ:N≤ns.length) (hE:RE p c ns W E N)
include ht hN aJ hE
theorem Lf (m d:Nat) (W':World) (hb:Below W.heap.size W W') (bR:m≤N) (hm:m<ns.length) (hd:(d:Int)+m≤2000) (hk:ns[m].kind=18) (hsz:(aF ns E K S ns[m] d).size≤1000000000):
  Calls Tryz.prog 150 #[.slice p ns.length c,.int .i64 (m:Int),.int .i64 (d:Int)] W' fun e w'=>e=.returned (.string (aF ns E K S ns[m] d))∧Below W'.heap.size W' w':=by
 have zq:=ht;clear zq;have zq:=hN;clear zq;have zq:=aJ;clear zq;have zq:=hE;clear zq
 obtain⟨b,o,hp,hlt,c0,c1,c2,c3⟩:=bL hN hb hm;have hv:=ht.all m ns[m] hm (List.getElem?_eq_getElem hm);have bK:=bM hv;rw [hk] at bK;have aT:=ht.few.2 ns[m] (List.getElem_mem hm);have aX:=ht.cap ns[m] (List.getElem_mem hm);have hl:(m:Int)<(ns.length:Int):=aa;have bu:0<ns[m].kids.length:=Nat.lt_of_lt_of_le ai bK;obtain⟨aq,aU,bf,aS,dQ⟩:=cC hN hb hm bu;have eA:=cE ht (List.getElem?_eq_getElem hm) bu;have dY:(0:Int)<(ns[m].kids.length:Int):=aa;obtain⟨R,hR⟩:∃R,R=aF ns E K S ns[m] d:=⟨_,rfl⟩;rw [←hR] at hsz ⊢;have hX:R=dR ns E (ns[m].kids.getD 0 0) d++(⟨#[46]⟩:ByteArray)++ns[m].text:=eT;have iY:ns[m].text.size≤4000:=aT.2;have aj:=hsz;rw [hX] at aj
 try simp only [ByteArray.size_append] at aj
 have dm:=hid (fun w hb2=>uG ht hN aJ hE (ns[m].kids.getD 0 0) d w hb2 eA.1 aa aa aa);generalize dR ns E (ns[m].kids.getD 0 0) d=s0 at*;generalize ns[m].kids.getD 0 0=k0 at*;have HX:=hid hX;have HB:=hid hb;clear hE hR hX hN ht hv aT aJ hsz eA bK hb aX;generalize ns[m]=x at*;obtain⟨xk,xt,xp,xc,aK,aP⟩:=x;simp only at c0 c1 c2 c3 hk iY HX bu bf dY;subst hk hp;subst bf;rw [Nat.add_zero] at dQ;generalize ns.length=L at*;generalize aK.length=xl at*;have G4:s0.size+1+xt.size≤1000000000:=aj;have hB2:¬9223372036854775807<s0.size+1:=aa;have hB3:¬9223372036854775807<s0.size+1+xt.size:=aa;clear G4;go_enter Tryz.func150,Tryz.ntmps150;go_wp2;go_region_held3 (fun w'=>w'.cell? ⟨W'.heap.size,1,none⟩=some (.string xt)∧w'.cell? ⟨W'.heap.size,2,none⟩=some (.slice (some ⟨aq,aU,none⟩) xl xc)∧w'.cell? ⟨aq,aU,none⟩=some (.int .i64 k0)∧Below W.heap.size W w'∧W'.heap.size<w'.heap.size)
  ((go_split_ands;(try refine⟨?_, ?_, ?_, ?_, ?_⟩)<;>first|assumption|(refine(dP _ _ _ _ aa).trans ?_;assumption)|((repeat (first|exact HB.out|assumption|refine bN ?_ _|refine bD ?_|refine bG ?_ _|refine bI ?_ _ _|refine bA ?_ _));done)|(simp [go_sem];done)|(simp only [size_grow,World.size_alloc];omega)|(simp [go_sem, *];done)))
  (first|(go_at_call 202;go_split_ands;((with_reducible refine(dm.out _ eL).mono ?_));rintro e w' ⟨rfl,hb1⟩;obtain⟨G0,rfl⟩:=ay hb1;clear hb1))
 go_wp2
 all_goals (go_ret;exact⟨by rw [HX.out];rfl,fH⟩)
theorem Lc (m d:Nat) (W':World) (hb:Below W.heap.size W W') (bR:m≤N) (hm:m<ns.length) (hd:(d:Int)+m≤2000) (hk:ns[m].kind=13) (hsz:(aF ns E K S ns[m] d).size≤1000000000):
  Calls Tryz.prog 150 #[.slice p ns.length c,.int .i64 (m:Int),.int .i64 (d:Int)] W' fun e w'=>e=.returned (.string (aF ns E K S ns[m] d))∧Below W'.heap.size W' w':=by
 have zq:=ht;clear zq;have zq:=hN;clear zq;have zq:=aJ;clear zq;have zq:=hE;clear zq
 obtain⟨b,o,hp,hlt,c0,c1,c2,c3⟩:=bL hN hb hm;have hv:=ht.all m ns[m] hm (List.getElem?_eq_getElem hm);have bK:=bM hv;rw [hk] at bK;have aT:=ht.few.2 ns[m] (List.getElem_mem hm);have aX:=ht.cap ns[m] (List.getElem_mem hm);have hl:(m:Int)<(ns.length:Int):=aa;obtain⟨R,hR⟩:∃R,R=aF ns E K S ns[m] d:=⟨_,rfl⟩;rw [←hR] at hsz ⊢;have hX:R=⟨#[110,105,108]⟩:=eT;have iY:ns[m].text.size≤4000:=aT.2;have aj:=hsz;rw [hX] at aj
 try simp only [ByteArray.size_append] at aj
 have HX:=hid hX;have HB:=hid hb;clear hE hR hX hN ht hv aT aJ hsz bK hb aX;generalize ns[m]=x at*;obtain⟨xk,xt,xp,xc,aK,aP⟩:=x;simp only at c0 c1 c2 c3 hk iY HX;subst hk hp;generalize ns.length=L at*;generalize aK.length=xl at*;go_enter Tryz.func150,Tryz.ntmps150;go_wp2
 all_goals (go_ret;exact⟨by rw [HX.out];rfl,fH⟩)
theorem Ld (m d:Nat) (W':World) (hb:Below W.heap.size W W') (bR:m≤N) (hm:m<ns.length) (hd:(d:Int)+m≤2000) (hk:ns[m].kind=16) (hsz:(aF ns E K S ns[m] d).size≤1000000000):
  Calls Tryz.prog 150 #[.slice p ns.length c,.int .i64 (m:Int),.int .i64 (d:Int)] W' fun e w'=>e=.returned (.string (aF ns E K S ns[m] d))∧Below W'.heap.size W' w':=by
 have zq:=ht;clear zq;have zq:=hN;clear zq;have zq:=aJ;clear zq;have zq:=hE;clear zq
 obtain⟨b,o,hp,hlt,c0,c1,c2,c3⟩:=bL hN hb hm;have hv:=ht.all m ns[m] hm (List.getElem?_eq_getElem hm);have bK:=bM hv;rw [hk] at bK;have aT:=ht.few.2 ns[m] (List.getElem_mem hm);have aX:=ht.cap ns[m] (List.getElem_mem hm);have hl:(m:Int)<(ns.length:Int):=aa;obtain⟨R,hR⟩:∃R,R=aF ns E K S ns[m] d:=⟨_,rfl⟩;rw [←hR] at hsz ⊢;have hX:R=iL ns[m].text:=eT;have iY:ns[m].text.size≤4000:=aT.2;have aj:=hsz;rw [hX] at aj
 try simp only [ByteArray.size_append] at aj
 have dm:=hid (fun w=>CR ns[m].text w aa);generalize iL ns[m].text=s0 at*;have HX:=hid hX;have HB:=hid hb;clear hE hR hX hN ht hv aT aJ hsz bK hb aX;generalize ns[m]=x at*;obtain⟨xk,xt,xp,xc,aK,aP⟩:=x;simp only at c0 c1 c2 c3 hk iY HX dm;subst hk hp;generalize ns.length=L at*;generalize aK.length=xl at*;go_enter Tryz.func150,Tryz.ntmps150;go_wp2_with (first|(go_at_call 100;((with_reducible refine(dm.out _).mono ?_));rintro e w' ⟨rfl,hb1⟩;obtain⟨G0,rfl⟩:=ay hb1;clear hb1));go_wp2
 all_goals (go_ret;exact⟨by rw [HX.out];rfl,fH⟩)
theorem Lg (m d:Nat) (W':World) (hb:Below W.heap.size W W') (bR:m≤N) (hm:m<ns.length) (hd:(d:Int)+m≤2000) (hk:ns[m].kind=19) (hsz:(aF ns E K S ns[m] d).size≤1000000000):
  Calls Tryz.prog 150 #[.slice p ns.length c,.int .i64 (m:Int),.int .i64 (d:Int)] W' fun e w'=>e=.returned (.string (aF ns E K S ns[m] d))∧Below W'.heap.size W' w':=by
 have zq:=ht;clear zq;have zq:=hN;clear zq;have zq:=aJ;clear zq;have zq:=hE;clear zq
 obtain⟨b,o,hp,hlt,c0,c1,c2,c3⟩:=bL hN hb hm;have hv:=ht.all m ns[m] hm (List.getElem?_eq_getElem hm);have bK:=bM hv;rw [hk] at bK;have aT:=ht.few.2 ns[m] (List.getElem_mem hm);have aX:=ht.cap ns[m] (List.getElem_mem hm);have hl:(m:Int)<(ns.length:Int):=aa;have bu:0<ns[m].kids.length:=Nat.lt_of_lt_of_le ai bK;obtain⟨aq,aU,bf,aS,dQ⟩:=cC hN hb hm bu;have eA:=cE ht (List.getElem?_eq_getElem hm) bu;have dY:(0:Int)<(ns[m].kids.length:Int):=aa;have gC:1<ns[m].kids.length:=Nat.lt_of_lt_of_le ai bK;obtain⟨bk1,ok1,fA,Bl,oM⟩:=cC hN hb hm gC;have iq:=cE ht (List.getElem?_eq_getElem hm) gC;have mA:(1:Int)<(ns[m].kids.length:Int):=aa;obtain⟨R,hR⟩:∃R,R=aF ns E K S ns[m] d:=⟨_,rfl⟩;rw [←hR] at hsz ⊢;have hX:R=dR ns E (ns[m].kids.getD 0 0) d++(⟨#[91]⟩:ByteArray)++E (ns[m].kids.getD 1 0) d++(⟨#[93]⟩:ByteArray):=eT;have iY:ns[m].text.size≤4000:=aT.2;have aj:=hsz;rw [hX] at aj
 try simp only [ByteArray.size_append] at aj
 have dm:=hid (fun w hb2=>uG ht hN aJ hE (ns[m].kids.getD 0 0) d w hb2 eA.1 aa aa aa);have kj:=hid (fun w hb2=>hE (ns[m].kids.getD 1 0) d w hb2 iq.1 aa aa aa);generalize dR ns E (ns[m].kids.getD 0 0) d=s0 at*;generalize E (ns[m].kids.getD 1 0) d=s1 at*;generalize ns[m].kids.getD 0 0=k0 at*;generalize ns[m].kids.getD 1 0=k1 at*;have HX:=hid hX;have HB:=hid hb;clear hE hR hX hN ht hv aT aJ hsz eA iq bK hb aX;generalize ns[m]=x at*;obtain⟨xk,xt,xp,xc,aK,aP⟩:=x;simp only at c0 c1 c2 c3 hk iY HX bu bf dY gC fA mA;subst hk hp;subst bf;cases fA;rw [Nat.add_zero] at dQ;generalize ns.length=L at*;generalize aK.length=xl at*;have G4:s0.size+1+s1.size+1≤1000000000:=aj;have hB2:¬9223372036854775807<s0.size+1:=aa;have hB3:¬9223372036854775807<s0.size+1+s1.size:=aa;have hB4:¬9223372036854775807<s0.size+1+s1.size+1:=aa;clear G4;go_enter Tryz.func150,Tryz.ntmps150;go_wp2;go_region_held3 (fun w'=>w'.cell? ⟨W'.heap.size,2,none⟩=some (.slice (some ⟨aq,aU,none⟩) xl xc)∧w'.cell? ⟨aq,aU,none⟩=some (.int .i64 k0)∧w'.cell? ⟨aq,aU+1,none⟩=some (.int .i64 k1)∧Below W.heap.size W w'∧W'.heap.size<w'.heap.size)
  ((go_split_ands;(try refine⟨?_, ?_, ?_, ?_, ?_⟩)<;>first|assumption|(refine(dP _ _ _ _ aa).trans ?_;assumption)|((repeat (first|exact HB.out|assumption|refine bN ?_ _|refine bD ?_|refine bG ?_ _|refine bI ?_ _ _|refine bA ?_ _));done)|(simp [go_sem];done)|(simp only [size_grow,World.size_alloc];omega)|(simp [go_sem, *];done)))
  (first|(go_at_call 202;go_split_ands;((with_reducible refine(dm.out _ eL).mono ?_));rintro e w' ⟨rfl,hb1⟩;obtain⟨G0,rfl⟩:=ay hb1;clear hb1)|(go_at_call 150;go_split_ands;((with_reducible refine(kj.out _ eL).mono ?_));rintro e w' ⟨rfl,hb1⟩;obtain⟨G1,rfl⟩:=ay hb1;clear hb1))
 go_wp2
 all_goals (go_ret;exact⟨by rw [HX.out];rfl,fH⟩)
theorem Li (m d:Nat) (W':World) (hb:Below W.heap.size W W') (bR:m≤N) (hm:m<ns.length) (hd:(d:Int)+m≤2000) (hk:ns[m].kind=21) (hsz:(aF ns E K S ns[m] d).size≤1000000000):
  Calls Tryz.prog 150 #[.slice p ns.length c,.int .i64 (m:Int),.int .i64 (d:Int)] W' fun e w'=>e=.returned (.string (aF ns E K S ns[m] d))∧Below W'.heap.size W' w':=by
 have zq:=ht;clear zq;have zq:=hN;clear zq;have zq:=aJ;clear zq;have zq:=hE;clear zq
 obtain⟨b,o,hp,hlt,c0,c1,c2,c3⟩:=bL hN hb hm;have hv:=ht.all m ns[m] hm (List.getElem?_eq_getElem hm);have bK:=bM hv;rw [hk] at bK;have aT:=ht.few.2 ns[m] (List.getElem_mem hm);have aX:=ht.cap ns[m] (List.getElem_mem hm);have hl:(m:Int)<(ns.length:Int):=aa;obtain⟨R,hR⟩:∃R,R=aF ns E K S ns[m] d:=⟨_,rfl⟩;rw [←hR] at hsz ⊢;have hX:R=ns[m].text++(⟨#[40]⟩:ByteArray)++dL E ns[m].kids d++(⟨#[41]⟩:ByteArray):=eT;have iY:ns[m].text.size≤4000:=aT.2;have aj:=hsz;rw [hX] at aj
 try simp only [ByteArray.size_append] at aj
 have bZ:∀k∈ns[m].kids,0≤k∧k<(N:Int)∧(d:Int)+k≤2000:=fun k hk2=>by have:=hv.kids k hk2;exact⟨this.1,by omega,by omega⟩
 have hIn:bC W ns[m].kp ns[m].kids:=(hN.2.1 _ (List.getElem_mem hm)).2.2.2.2.2;have dm:=hid (fun w hb2=>pM aJ hE ns[m].kids ns[m].kp ns[m].aG d w hb2 hIn bZ aa aa);generalize dL E ns[m].kids d=s0 at*;clear bZ hIn;have HX:=hid hX;have HB:=hid hb;clear hE hR hX hN ht hv aT aJ hsz bK hb aX;generalize ns[m]=x at*;obtain⟨xk,xt,xp,xc,aK,aP⟩:=x;simp only at c0 c1 c2 c3 hk iY HX dm;subst hk hp;generalize ns.length=L at*;generalize aK.length=xl at*;have G4:xt.size+1+s0.size+1≤1000000000:=aj;have hB2:¬9223372036854775807<xt.size+1:=aa;have hB3:¬9223372036854775807<xt.size+1+s0.size:=aa;have hB4:¬9223372036854775807<xt.size+1+s0.size+1:=aa;clear G4;go_enter Tryz.func150,Tryz.ntmps150;go_wp2;go_region_held3 (fun w'=>w'.cell? ⟨W'.heap.size,1,none⟩=some (.string xt)∧w'.cell? ⟨W'.heap.size,2,none⟩=some (.slice xp xl xc)∧Below W.heap.size W w'∧W'.heap.size<w'.heap.size)
  ((go_split_ands;(try refine⟨?_, ?_, ?_, ?_⟩)<;>first|assumption|(refine(dP _ _ _ _ aa).trans ?_;assumption)|((repeat (first|exact HB.out|assumption|refine bN ?_ _|refine bD ?_|refine bG ?_ _|refine bI ?_ _ _|refine bA ?_ _));done)|(simp [go_sem];done)|(simp only [size_grow,World.size_alloc];omega)|(simp [go_sem, *];done)))
  (first|(go_at_call 203;go_split_ands;((with_reducible refine(dm.out _ eL).mono ?_));rintro e w' ⟨rfl,hb1⟩;obtain⟨G0,rfl⟩:=ay hb1;clear hb1))
 go_wp2
 all_goals (go_ret;exact⟨by rw [HX.out];rfl,fH⟩)
theorem Ll (m d:Nat) (W':World) (hb:Below W.heap.size W W') (bR:m≤N) (hm:m<ns.length) (hd:(d:Int)+m≤2000) (hk:ns[m].kind=24) (hsz:(aF ns E K S ns[m] d).size≤1000000000):
  Calls Tryz.prog 150 #[.slice p ns.length c,.int .i64 (m:Int),.int .i64 (d:Int)] W' fun e w'=>e=.returned (.string (aF ns E K S ns[m] d))∧Below W'.heap.size W' w':=by
 have zq:=ht;clear zq;have zq:=hN;clear zq;have zq:=aJ;clear zq;have zq:=hE;clear zq
 obtain⟨b,o,hp,hlt,c0,c1,c2,c3⟩:=bL hN hb hm;have hv:=ht.all m ns[m] hm (List.getElem?_eq_getElem hm);have bK:=bM hv;rw [hk] at bK;have aT:=ht.few.2 ns[m] (List.getElem_mem hm);have aX:=ht.cap ns[m] (List.getElem_mem hm);have hl:(m:Int)<(ns.length:Int):=aa;obtain⟨R,hR⟩:∃R,R=aF ns E K S ns[m] d:=⟨_,rfl⟩;rw [←hR] at hsz ⊢;have hX:R=(⟨#[123]⟩:ByteArray)++dL E ns[m].kids d++(⟨#[125]⟩:ByteArray):=eT;have iY:ns[m].text.size≤4000:=aT.2;have aj:=hsz;rw [hX] at aj
 try simp only [ByteArray.size_append] at aj
 have bZ:∀k∈ns[m].kids,0≤k∧k<(N:Int)∧(d:Int)+k≤2000:=fun k hk2=>by have:=hv.kids k hk2;exact⟨this.1,by omega,by omega⟩
 have hIn:bC W ns[m].kp ns[m].kids:=(hN.2.1 _ (List.getElem_mem hm)).2.2.2.2.2;have dm:=hid (fun w hb2=>pM aJ hE ns[m].kids ns[m].kp ns[m].aG d w hb2 hIn bZ aa aa);generalize dL E ns[m].kids d=s0 at*;clear bZ hIn;have HX:=hid hX;have HB:=hid hb;clear hE hR hX hN ht hv aT aJ hsz bK hb aX;generalize ns[m]=x at*;obtain⟨xk,xt,xp,xc,aK,aP⟩:=x;simp only at c0 c1 c2 c3 hk iY HX dm;subst hk hp;generalize ns.length=L at*;generalize aK.length=xl at*;go_enter Tryz.func150,Tryz.ntmps150;go_wp2_with (first|(go_at_call 203;((with_reducible refine(dm.out _ rV).mono ?_));rintro e w' ⟨rfl,hb1⟩;obtain⟨G0,rfl⟩:=ay hb1;clear hb1));go_wp2
 all_goals (go_ret;exact⟨by rw [HX.out];rfl,fH⟩)
theorem Lm (m d:Nat) (W':World) (hb:Below W.heap.size W W') (bR:m≤N) (hm:m<ns.length) (hd:(d:Int)+m≤2000) (hk:ns[m].kind=25) (hsz:(aF ns E K S ns[m] d).size≤1000000000):
  Calls Tryz.prog 150 #[.slice p ns.length c,.int .i64 (m:Int),.int .i64 (d:Int)] W' fun e w'=>e=.returned (.string (aF ns E K S ns[m] d))∧Below W'.heap.size W' w':=by
 have zq:=ht;clear zq;have zq:=hN;clear zq;have zq:=aJ;clear zq;have zq:=hE;clear zq
 obtain⟨b,o,hp,hlt,c0,c1,c2,c3⟩:=bL hN hb hm;have hv:=ht.all m ns[m] hm (List.getElem?_eq_getElem hm);have bK:=bM hv;rw [hk] at bK;have aT:=ht.few.2 ns[m] (List.getElem_mem hm);have aX:=ht.cap ns[m] (List.getElem_mem hm);have hl:(m:Int)<(ns.length:Int):=aa;have bu:0<ns[m].kids.length:=Nat.lt_of_lt_of_le ai bK;obtain⟨aq,aU,bf,aS,dQ⟩:=cC hN hb hm bu;have eA:=cE ht (List.getElem?_eq_getElem hm) bu;have dY:(0:Int)<(ns[m].kids.length:Int):=aa;obtain⟨R,hR⟩:∃R,R=aF ns E K S ns[m] d:=⟨_,rfl⟩;rw [←hR] at hsz ⊢;have hX:R=ns[m].text++(⟨#[32,61,32]⟩:ByteArray)++E (ns[m].kids.getD 0 0) d:=eT;have iY:ns[m].text.size≤4000:=aT.2;have aj:=hsz;rw [hX] at aj
 try simp only [ByteArray.size_append] at aj
 have dm:=hid (fun w hb2=>hE (ns[m].kids.getD 0 0) d w hb2 eA.1 aa aa aa);generalize E (ns[m].kids.getD 0 0) d=s0 at*;generalize ns[m].kids.getD 0 0=k0 at*;have HX:=hid hX;have HB:=hid hb;clear hE hR hX hN ht hv aT aJ hsz eA bK hb aX;generalize ns[m]=x at*;obtain⟨xk,xt,xp,xc,aK,aP⟩:=x;simp only at c0 c1 c2 c3 hk iY HX bu bf dY;subst hk hp;subst bf;rw [Nat.add_zero] at dQ;generalize ns.length=L at*;generalize aK.length=xl at*;have G4:xt.size+3+s0.size≤1000000000:=aj;have hB2:¬9223372036854775807<xt.size+3:=aa;have hB3:¬9223372036854775807<xt.size+3+s0.size:=aa;clear G4;go_enter Tryz.func150,Tryz.ntmps150;go_wp2;go_region_held3 (fun w'=>w'.cell? ⟨W'.heap.size,1,none⟩=some (.string xt)∧w'.cell? ⟨W'.heap.size,2,none⟩=some (.slice (some ⟨aq,aU,none⟩) xl xc)∧w'.cell? ⟨aq,aU,none⟩=some (.int .i64 k0)∧Below W.heap.size W w'∧W'.heap.size<w'.heap.size)
  ((go_split_ands;(try refine⟨?_, ?_, ?_, ?_, ?_⟩)<;>first|assumption|(refine(dP _ _ _ _ aa).trans ?_;assumption)|((repeat (first|exact HB.out|assumption|refine bN ?_ _|refine bD ?_|refine bG ?_ _|refine bI ?_ _ _|refine bA ?_ _));done)|(simp [go_sem];done)|(simp only [size_grow,World.size_alloc];omega)|(simp [go_sem, *];done)))
  (first|(go_at_call 150;go_split_ands;((with_reducible refine(dm.out _ eL).mono ?_));rintro e w' ⟨rfl,hb1⟩;obtain⟨G0,rfl⟩:=ay hb1;clear hb1))
 go_wp2
 all_goals (go_ret;exact⟨by rw [HX.out];rfl,fH⟩)
theorem Ln (m d:Nat) (W':World) (hb:Below W.heap.size W W') (bR:m≤N) (hm:m<ns.length) (hd:(d:Int)+m≤2000) (hk:ns[m].kind=26) (hsz:(aF ns E K S ns[m] d).size≤1000000000):
  Calls Tryz.prog 150 #[.slice p ns.length c,.int .i64 (m:Int),.int .i64 (d:Int)] W' fun e w'=>e=.returned (.string (aF ns E K S ns[m] d))∧Below W'.heap.size W' w':=by
 have zq:=ht;clear zq;have zq:=hN;clear zq;have zq:=aJ;clear zq;have zq:=hE;clear zq
 obtain⟨b,o,hp,hlt,c0,c1,c2,c3⟩:=bL hN hb hm;have hv:=ht.all m ns[m] hm (List.getElem?_eq_getElem hm);have bK:=bM hv;rw [hk] at bK;have aT:=ht.few.2 ns[m] (List.getElem_mem hm);have aX:=ht.cap ns[m] (List.getElem_mem hm);have hl:(m:Int)<(ns.length:Int):=aa;have bu:0<ns[m].kids.length:=Nat.lt_of_lt_of_le ai bK;obtain⟨aq,aU,bf,aS,dQ⟩:=cC hN hb hm bu;have eA:=cE ht (List.getElem?_eq_getElem hm) bu;have dY:(0:Int)<(ns[m].kids.length:Int):=aa;obtain⟨R,hR⟩:∃R,R=aF ns E K S ns[m] d:=⟨_,rfl⟩;rw [←hR] at hsz ⊢;have hX:R=E (ns[m].kids.getD 0 0) d:=eT;have iY:ns[m].text.size≤4000:=aT.2;have aj:=hsz;rw [hX] at aj
 try simp only [ByteArray.size_append] at aj
 have dm:=hid (fun w hb2=>hE (ns[m].kids.getD 0 0) d w hb2 eA.1 aa aa aa);generalize E (ns[m].kids.getD 0 0) d=s0 at*;generalize ns[m].kids.getD 0 0=k0 at*;have HX:=hid hX;have HB:=hid hb;clear hE hR hX hN ht hv aT aJ hsz eA bK hb aX;generalize ns[m]=x at*;obtain⟨xk,xt,xp,xc,aK,aP⟩:=x;simp only at c0 c1 c2 c3 hk iY HX bu bf dY;subst hk hp;subst bf;rw [Nat.add_zero] at dQ;generalize ns.length=L at*;generalize aK.length=xl at*;go_enter Tryz.func150,Tryz.ntmps150;go_wp2_with (first|(go_at_call 150;((with_reducible refine(dm.out _ rV).mono ?_));rintro e w' ⟨rfl,hb1⟩;obtain⟨G0,rfl⟩:=ay hb1;clear hb1));go_wp2
 all_goals (go_ret;exact⟨by rw [HX.out];rfl,fH⟩)
theorem Lh (m d:Nat) (W':World) (hb:Below W.heap.size W W') (bR:m≤N) (hm:m<ns.length) (hd:(d:Int)+m≤2000) (hk:ns[m].kind=20) (hsz:(aF ns E K S ns[m] d).size≤1000000000):
  Calls Tryz.prog 150 #[.slice p ns.length c,.int .i64 (m:Int),.int .i64 (d:Int)] W' fun e w'=>e=.returned (.string (aF ns E K S ns[m] d))∧Below W'.heap.size W' w':=by
 have zq:=ht;clear zq;have zq:=hN;clear zq;have zq:=aJ;clear zq;have zq:=hE;clear zq
 have RM:=trivial;exact Mh
theorem Dy (m d:Nat) (W':World) (hb:Below W.heap.size W W') (bR:m≤N) (hm:m<ns.length) (hk:ns[m].kind ∉ [13,16,18,19,20,21,22,24,25,26,28,27,29,30]):
  Calls Tryz.prog 150 #[.slice p ns.length c,.int .i64 (m:Int),.int .i64 (d:Int)] W' fun e w'=>e=.returned (.string (aF ns E K S ns[m] d))∧Below W'.heap.size W' w':=by
 have zq:=ht;clear zq;have zq:=hN;clear zq;have zq:=aJ;clear zq;have zq:=hE;clear zq
 obtain⟨b,o,hp,hlt,c0,c1,c2,c3⟩:=bL hN hb hm;have hl:(m:Int)<(ns.length:Int):=aa;simp only [List.mem_cons,not_or,List.not_mem_nil,not_false_eq_true,and_true] at hk;obtain⟨QA,n16,n18,n19,n20,n21,n22,n24,n25,n26,Jo,Jp,Jn,Jm⟩:=hk;obtain⟨R,hR⟩:∃R,R=aF ns E K S ns[m] d:=⟨_,rfl⟩;rw [←hR];have hX:R=ns[m].text:=by
  rw [hR,aF];simp only [QA,n16,n18,n19,n20,n21,n22,n24,n25,n26,Jo,Jp,Jn,Jm,or_self,if_false]
 have QB:(ns[m].kind==13)=false:=by simp [QA]
 have e16:(ns[m].kind==16)=false:=by simp [n16]
 have e18:(ns[m].kind==18)=false:=by simp [n18]
 have e19:(ns[m].kind==19)=false:=by simp [n19]
 have e20:(ns[m].kind==20)=false:=by simp [n20]
 have e21:(ns[m].kind==21)=false:=by simp [n21]
 have e22:(ns[m].kind==22)=false:=by simp [n22]
 have e24:(ns[m].kind==24)=false:=by simp [n24]
 have e25:(ns[m].kind==25)=false:=by simp [n25]
 have e26:(ns[m].kind==26)=false:=by simp [n26]
 have e28:(ns[m].kind==28)=false:=by simp [Jo]
 have e27:(ns[m].kind==27)=false:=by simp [Jp]
 have e29:(ns[m].kind==29)=false:=by simp [Jn]
 have e30:(ns[m].kind==30)=false:=by simp [Jm]
 have HX:=hid hX;have HB:=hid hb;clear hE hR hX hN ht aJ hb QA n16 n18 n19 n20 n21 n22 n24 n25 n26 Jo Jp Jn Jm;generalize ns[m]=x at*;obtain⟨xk,xt,xp,xc,aK,aP⟩:=x;simp only at c0 c1 c2 c3 HX QB e16 e18 e19 e20 e21 e22 e24 e25 e26 e28 e27 e29 e30;subst hp;generalize ns.length=L at*;generalize aK.length=xl at*;go_enter Tryz.func150,Tryz.ntmps150;go_wp2
 all_goals (go_ret;exact⟨by rw [HX.out];rfl,fH⟩)
end
end Go.Proofs.YtjchnliaglecoaaGreatDoor