/- A part of the proof. Conditions: none. -/
import Derived.Test.YtjchnliaglecoaaGreatDoorZz
import Derived.Test.YtjchnliaglecoaaGreatDoorRxX
import Derived.Test.YtjchnliaglecoaaGreatDoorRzbX
set_option linter.unusedVariables false
set_option linter.unusedSimpArgs false
set_option maxRecDepth 100000
set_option maxHeartbeats 8000000
namespace Go.Proofs.YtjchnliaglecoaaGreatDoor
open Go Go.RowKit Go.Nodes
section
variable {p:Option Addr} {c:Nat} {ns:List Nd} {W:World} (ht:Tr ns) (hN:aA W p ns) {E:Int→Nat→ByteArray} {K:Int→ByteArray} {S:Int→Nat→ByteArray} {N:Nat} (aJ:N≤ns.length) (hE:RE p c ns W E N)
include ht hN aJ hE
theorem Lr (m d:Nat) (W':World) (hb:Below W.heap.size W W') (bR:m≤N) (hm:m<ns.length) (hd:(d:Int)+m≤2000) (hk:ns[m].kind=28) (hsz:(aF ns E K S ns[m] d).size≤1000000000):
  Calls Tryz.prog 150 #[.slice p ns.length c,.int .i64 (m:Int),.int .i64 (d:Int)] W' fun e w'=>e=.returned (.string (aF ns E K S ns[m] d))∧Below W'.heap.size W' w':=by
 have zq:=ht;clear zq;have zq:=hN;clear zq;have zq:=aJ;clear zq;have zq:=hE;clear zq
 have Tk:=trivial;exact Mh
end
end Go.Proofs.YtjchnliaglecoaaGreatDoor
/- A part of the proof. Conditions: none. -/
set_option maxRecDepth 100000
set_option maxHeartbeats 8000000
namespace Go.Proofs.YtjchnliaglecoaaGreatDoor
open Go Go.RowKit Go.Nodes
section
variable {p:Option Addr} {c:Nat} {ns:List Nd} {W:World} (ht:Tr ns) (hN:aA W p ns) {E:Int→Nat→ByteArray} {K:Int→ByteArray} {S:Int→Nat→ByteArray} {N:Nat} (aJ:N≤ns.length) (hK:RK p c ns W K N)
include ht hN aJ hK
theorem Lx (m:Nat) (W':World) (hb:Below W.heap.size W W') (bR:m≤N) (hm:m<ns.length) (hk:ns[m].kind=35) (hsz:(bW ns K ns[m]).size≤1000000000):
  Calls Tryz.prog 201 #[.slice p ns.length c,.int .i64 (m:Int)] W' fun e w'=>e=.returned (.string (bW ns K ns[m]))∧Below W'.heap.size W' w':=by
 have zq:=ht;clear zq;have zq:=hN;clear zq;have zq:=aJ;clear zq;have zq:=hK;clear zq
 have U3:=trivial;exact acQ
theorem Lv (m:Nat) (W':World) (hb:Below W.heap.size W W') (bR:m≤N) (hm:m<ns.length) (hk:ns[m].kind=34) (hsz:(bW ns K ns[m]).size≤1000000000):
  Calls Tryz.prog 201 #[.slice p ns.length c,.int .i64 (m:Int)] W' fun e w'=>e=.returned (.string (bW ns K ns[m]))∧Below W'.heap.size W' w':=by
 have zq:=ht;clear zq;have zq:=hN;clear zq;have zq:=aJ;clear zq;have zq:=hK;clear zq
 have U4:=trivial;exact acQ
theorem Lz (m:Nat) (W':World) (hb:Below W.heap.size W W') (bR:m≤N) (hm:m<ns.length) (hk:ns[m].kind=36) (hsz:(bW ns K ns[m]).size≤1000000000):
  Calls Tryz.prog 201 #[.slice p ns.length c,.int .i64 (m:Int)] W' fun e w'=>e=.returned (.string (bW ns K ns[m]))∧Below W'.heap.size W' w':=by
 have zq:=ht;clear zq;have zq:=hN;clear zq;have zq:=aJ;clear zq;have zq:=hK;clear zq
 obtain⟨b,o,hp,hlt,c0,c1,c2,c3⟩:=bL hN hb hm;have hv:=ht.all m ns[m] hm (List.getElem?_eq_getElem hm);have bK:=bM hv;rw [hk] at bK;have hf:=hv.fits;rw [hk] at hf;have aT:=ht.few.2 ns[m] (List.getElem_mem hm);have aX:=ht.cap ns[m] (List.getElem_mem hm);have hl:(m:Int)<(ns.length:Int):=aa;have hq:∀i,i<ns[m].kids.length→0≤ns[m].kids.getD i 0∧ns[m].kids.getD i 0<m:=fun i hi=>cE ht (List.getElem?_eq_getElem hm) hi
 have jC:∀i (hi:i<ns[m].kids.length),∃b o,ns[m].kp=some ⟨b,o,none⟩∧b<W'.heap.size∧W'.cell? ⟨b,o+i,none⟩=some (.int .i64 (ns[m].kids.getD i 0)):=fun i hi=>cC hN hb hm hi
 have QS:(ns[m].kids.length:Int)≤10000:=aa;have iY:ns[m].text.size≤4000:=aT.2;obtain⟨R,hR⟩:∃R,R=bW ns K ns[m]:=⟨_,rfl⟩;rw [←hR] at hsz ⊢;have hX:R=K (ns[m].kids.getD 0 0)++(⟨#[32,64,32]⟩:ByteArray)++gF ns[m].text:=ya;have aj:=hsz;rw [hX] at aj
 try simp only [ByteArray.size_append] at aj
 have bu:0<ns[m].kids.length:=Nat.lt_of_lt_of_le ai bK;obtain⟨aq,aU,bf,aS,dQ⟩:=cC hN hb hm bu;have eA:=hq 0 bu;have dY:(0:Int)<(ns[m].kids.length:Int):=aa;have dm:=hid (fun w hb2=>hK (ns[m].kids.getD 0 0) w hb2 eA.1 aa aa);have hCm:=hid (fun w=>KS ns[m].text w);have hms:=nc ns[m].text;generalize K (ns[m].kids.getD 0 0)=s0 at*;generalize gF ns[m].text=s1 at*;generalize ns[m].kids.getD 0 0=k0 at*;have HX:=hid hX;have HB:=hid hb;clear hK hR hX hN ht hv aT aJ hsz bK hb aX hf hq jC eA;generalize ns[m]=x at*;obtain⟨xk,xt,xp,xc,aK,aP⟩:=x;simp only at c0 c1 c2 c3 hk iY HX QS bu bf dY hCm hms;subst hk hp;subst bf;rw [Nat.add_zero] at dQ;generalize ns.length=L at*;generalize aK.length=xl at*;have G4:s0.size+3+s1.size≤1000000000:=aj;have hB2:¬9223372036854775807<s0.size+3:=aa;have hB3:¬9223372036854775807<s0.size+3+s1.size:=aa;clear G4;go_enter Tryz.func201,Tryz.ntmps201;go_wp2;go_region_held3 (fun w'=>w'.cell? ⟨W'.heap.size,1,none⟩=some (.string xt)∧w'.cell? ⟨W'.heap.size,2,none⟩=some (.slice (some ⟨aq,aU,none⟩) xl xc)∧w'.cell? ⟨aq,aU,none⟩=some (.int .i64 k0)∧Below W.heap.size W w'∧W'.heap.size<w'.heap.size)
  ((go_split_ands;(try refine⟨?_, ?_, ?_, ?_, ?_⟩)<;>first|assumption|(refine(dP _ _ _ _ aa).trans ?_;assumption)|((repeat (first|exact HB.out|assumption|refine bN ?_ _|refine bD ?_|refine bG ?_ _|refine bI ?_ _ _|refine bA ?_ _));done)|(simp [go_sem];done)|(simp only [size_grow,World.size_alloc];omega)|(simp [go_sem, *];done)))
  (first|(go_at_call 201;go_split_ands;((with_reducible refine(dm.out _ eL).mono ?_));rintro e w' ⟨rfl,hb1⟩;obtain⟨G0,rfl⟩:=ay hb1;clear hb1)|(go_at_call 48;go_split_ands;((with_reducible refine((hCm.out _)).mono ?_));rintro e w' ⟨rfl,hw⟩;rw [hw];clear hw w'))
 go_wp2
 all_goals (go_ret;exact⟨by rw [HX.out];rfl,fH⟩)
theorem Dz (m:Nat) (W':World) (hb:Below W.heap.size W W') (bR:m≤N) (hm:m<ns.length) (hk:ns[m].kind ∉ [32,34,35,36]):
  Calls Tryz.prog 201 #[.slice p ns.length c,.int .i64 (m:Int)] W' fun e w'=>e=.returned (.string (bW ns K ns[m]))∧Below W'.heap.size W' w':=by
 have zq:=ht;clear zq;have zq:=hN;clear zq;have zq:=aJ;clear zq;have zq:=hK;clear zq
 obtain⟨b,o,hp,hlt,c0,c1,c2,c3⟩:=bL hN hb hm;have hl:(m:Int)<(ns.length:Int):=aa;simp only [List.mem_cons,not_or,List.not_mem_nil,not_false_eq_true,and_true] at hk;obtain⟨n32,n34,n35,n36⟩:=hk;obtain⟨R,hR⟩:∃R,R=bW ns K ns[m]:=⟨_,rfl⟩;rw [←hR];have hX:R=ns[m].text:=by
  rw [hR,bW];simp only [n32,n34,n35,n36,if_false]
 have e32:(ns[m].kind==32)=false:=by simp [n32]
 have e34:(ns[m].kind==34)=false:=by simp [n34]
 have e35:(ns[m].kind==35)=false:=by simp [n35]
 have e36:(ns[m].kind==36)=false:=by simp [n36]
 have HX:=hid hX;have HB:=hid hb;clear hK hR hX hN ht aJ hb n32 n34 n35 n36;generalize ns[m]=x at*;obtain⟨xk,xt,xp,xc,aK,aP⟩:=x;simp only at c0 c1 c2 c3 HX e32 e34 e35 e36;subst hp;generalize ns.length=L at*;generalize aK.length=xl at*;go_enter Tryz.func201,Tryz.ntmps201;go_wp2
 all_goals (go_ret;exact⟨by rw [HX.out];rfl,fH⟩)
theorem Lu (m:Nat) (W':World) (hb:Below W.heap.size W W') (bR:m≤N) (hm:m<ns.length) (hk:ns[m].kind=32) (hsz:(bW ns K ns[m]).size≤1000000000):
  Calls Tryz.prog 201 #[.slice p ns.length c,.int .i64 (m:Int)] W' fun e w'=>e=.returned (.string (bW ns K ns[m]))∧Below W'.heap.size W' w':=by
 have zq:=ht;clear zq;have zq:=hN;clear zq;have zq:=aJ;clear zq;have zq:=hK;clear zq
 have U5:=trivial;exact acQ
end
end Go.Proofs.YtjchnliaglecoaaGreatDoor
/- A part of the proof. Conditions: none. -/
set_option maxRecDepth 100000
set_option maxHeartbeats 8000000
namespace Go.Proofs.YtjchnliaglecoaaGreatDoor
open Go Go.RowKit Go.Nodes
section
variable {p:Option Addr} {c:Nat} {ns:List Nd} {W:World} (ht:Tr ns) (hN:aA W p ns) {E:Int→Nat→ByteArray} {K:Int→ByteArray} {S:Int→Nat→ByteArray} {N:Nat} (aJ:N≤ns.length) (hE:RE p c ns W E N) (hK:RK p c ns W K N) (hS:RS p c ns W S N)
include ht hN aJ hE hK hS
theorem RF (m d:Nat) (W':World) (hb:Below W.heap.size W W') (bR:m≤N) (hm:m<ns.length) (hd:(d:Int)+m≤2000) (hk:ns[m].kind=7) (hsz:(aQ ns E K S ns[m] d).size≤1000000000):
  Calls Tryz.prog 97 #[.slice p ns.length c,.int .i64 (m:Int),.int .i64 (d:Int)] W' fun e w'=>e=.returned (.string (aQ ns E K S ns[m] d))∧Below W'.heap.size W' w':=by
 have zq:=ht;clear zq;have zq:=hN;clear zq;have zq:=aJ;clear zq;have zq:=hE;clear zq;have zq:=hK;clear zq;have zq:=hS;clear zq
 have Ux:=trivial;exact D4
theorem RD (m d:Nat) (W':World) (hb:Below W.heap.size W W') (bR:m≤N) (hm:m<ns.length) (hd:(d:Int)+m≤2000) (hk:ns[m].kind=6) (hsz:(aQ ns E K S ns[m] d).size≤1000000000):
  Calls Tryz.prog 97 #[.slice p ns.length c,.int .i64 (m:Int),.int .i64 (d:Int)] W' fun e w'=>e=.returned (.string (aQ ns E K S ns[m] d))∧Below W'.heap.size W' w':=by
 have zq:=ht;clear zq;have zq:=hN;clear zq;have zq:=aJ;clear zq;have zq:=hE;clear zq;have zq:=hK;clear zq;have zq:=hS;clear zq
 have Uy:=trivial;exact D4
theorem RB (m d:Nat) (W':World) (hb:Below W.heap.size W W') (bR:m≤N) (hm:m<ns.length) (hd:(d:Int)+m≤2000) (hk:ns[m].kind=5) (hsz:(aQ ns E K S ns[m] d).size≤1000000000):
  Calls Tryz.prog 97 #[.slice p ns.length c,.int .i64 (m:Int),.int .i64 (d:Int)] W' fun e w'=>e=.returned (.string (aQ ns E K S ns[m] d))∧Below W'.heap.size W' w':=by
 have zq:=ht;clear zq;have zq:=hN;clear zq;have zq:=aJ;clear zq;have zq:=hE;clear zq;have zq:=hK;clear zq;have zq:=hS;clear zq
 have Uz:=trivial;exact D4
theorem RH (m d:Nat) (W':World) (hb:Below W.heap.size W W') (bR:m≤N) (hm:m<ns.length) (hd:(d:Int)+m≤2000) (hk:ns[m].kind=9) (hsz:(aQ ns E K S ns[m] d).size≤1000000000):
  Calls Tryz.prog 97 #[.slice p ns.length c,.int .i64 (m:Int),.int .i64 (d:Int)] W' fun e w'=>e=.returned (.string (aQ ns E K S ns[m] d))∧Below W'.heap.size W' w':=by
 have zq:=ht;clear zq;have zq:=hN;clear zq;have zq:=aJ;clear zq;have zq:=hE;clear zq;have zq:=hK;clear zq;have zq:=hS;clear zq
 have UA:=trivial;exact D4
end
end Go.Proofs.YtjchnliaglecoaaGreatDoor
/- A part of the proof. Conditions: none. -/
set_option maxRecDepth 100000
set_option maxHeartbeats 8000000
namespace Go.Proofs.YtjchnliaglecoaaGreatDoor
open Go Go.RowKit Go.Nodes
section
variable {p:Option Addr} {c:Nat} {ns:List Nd} {W:World} (ht:Tr ns) (hN:aA W p ns) {E:Int→Nat→ByteArray} {K:Int→ByteArray} {S:Int→Nat→ByteArray} {N:Nat} (aJ:N≤ns.length) (hE:RE p c ns W E N) (hK:RK p c ns W K N) (hS:RS p c ns W S N)
include ht hN aJ hE hK hS
theorem LA (m d:Nat) (W':World) (hb:Below W.heap.size W W') (bR:m≤N) (hm:m<ns.length) (hd:(d:Int)+m≤2000) (hk:ns[m].kind=10) (hsz:(aQ ns E K S ns[m] d).size≤1000000000):
  Calls Tryz.prog 97 #[.slice p ns.length c,.int .i64 (m:Int),.int .i64 (d:Int)] W' fun e w'=>e=.returned (.string (aQ ns E K S ns[m] d))∧Below W'.heap.size W' w':=by
 have zq:=ht;clear zq;have zq:=hN;clear zq;have zq:=aJ;clear zq;have zq:=hE;clear zq;have zq:=hK;clear zq;have zq:=hS;clear zq
 have Te:=trivial;exact D4
theorem RA (m d:Nat) (W':World) (hb:Below W.heap.size W W') (bR:m≤N) (hm:m<ns.length) (hd:(d:Int)+m≤2000) (hk:ns[m].kind=4) (hsz:(aQ ns E K S ns[m] d).size≤1000000000):
  Calls Tryz.prog 97 #[.slice p ns.length c,.int .i64 (m:Int),.int .i64 (d:Int)] W' fun e w'=>e=.returned (.string (aQ ns E K S ns[m] d))∧Below W'.heap.size W' w':=by
 have zq:=ht;clear zq;have zq:=hN;clear zq;have zq:=aJ;clear zq;have zq:=hE;clear zq;have zq:=hK;clear zq;have zq:=hS;clear zq
 have Tf:=trivial;exact D4
end
end Go.Proofs.YtjchnliaglecoaaGreatDoor
/- A part of the proof. Conditions: none. -/
set_option maxRecDepth 100000
set_option maxHeartbeats 8000000
namespace Go.Proofs.YtjchnliaglecoaaGreatDoor
open Go Go.RowKit Go.Nodes
section
variable {p:Option Addr} {c:Nat} {ns:List Nd} {W:World} (ht:Tr ns) (hN:aA W p ns) {E:Int→Nat→ByteArray} {K:Int→ByteArray} {S:Int→Nat→ByteArray} {N:Nat} (aJ:N≤ns.length) (hE:RE p c ns W E N) (hK:RK p c ns W K N) (hS:RS p c ns W S N)
include ht hN aJ hE hK hS
theorem RG (m d:Nat) (W':World) (hb:Below W.heap.size W W') (bR:m≤N) (hm:m<ns.length) (hd:(d:Int)+m≤2000) (hk:ns[m].kind=8) (hsz:(aQ ns E K S ns[m] d).size≤1000000000):
  Calls Tryz.prog 97 #[.slice p ns.length c,.int .i64 (m:Int),.int .i64 (d:Int)] W' fun e w'=>e=.returned (.string (aQ ns E K S ns[m] d))∧Below W'.heap.size W' w':=by
 have zq:=ht;clear zq;have zq:=hN;clear zq;have zq:=aJ;clear zq;have zq:=hE;clear zq;have zq:=hK;clear zq;have zq:=hS;clear zq
 have UC:=trivial;exact D4
omit hE hK hS in
theorem DA (m d:Nat) (W':World) (hb:Below W.heap.size W W') (bR:m≤N) (hm:m<ns.length) (hk:ns[m].kind ∉ [4,5,6,7,8,9,10]):
  Calls Tryz.prog 97 #[.slice p ns.length c,.int .i64 (m:Int),.int .i64 (d:Int)] W' fun e w'=>e=.returned (.string (aQ ns E K S ns[m] d))∧Below W'.heap.size W' w':=by
 have zq:=ht;clear zq;have zq:=hN;clear zq;have zq:=aJ;clear zq
 obtain⟨b,o,hp,hlt,c0,c1,c2,c3⟩:=bL hN hb hm;have hl:(m:Int)<(ns.length:Int):=aa;simp only [List.mem_cons,not_or,List.not_mem_nil,not_false_eq_true,and_true] at hk;obtain⟨n4,n5,n6,n7,n8,n9,n10⟩:=hk;obtain⟨R,hR⟩:∃R,R=aQ ns E K S ns[m] d:=⟨_,rfl⟩;rw [←hR];have hX:R=(⟨#[98,114,101,97,107]⟩:ByteArray):=by
  rw [hR,aQ];simp only [n4,n5,n6,n7,n8,n9,n10,if_false]
 have e4:(ns[m].kind==4)=false:=by simp [n4]
 have e5:(ns[m].kind==5)=false:=by simp [n5]
 have e6:(ns[m].kind==6)=false:=by simp [n6]
 have e7:(ns[m].kind==7)=false:=by simp [n7]
 have e8:(ns[m].kind==8)=false:=by simp [n8]
 have e9:(ns[m].kind==9)=false:=by simp [n9]
 have Q9:(ns[m].kind==10)=false:=by simp [n10]
 have HX:=hid hX;have HB:=hid hb;clear hR hX hN ht aJ hb n4 n5 n6 n7 n8 n9 n10;generalize ns[m]=x at*;obtain⟨xk,xt,xp,xc,aK,aP⟩:=x;simp only at c0 c1 c2 c3 HX e4 e5 e6 e7 e8 e9 Q9;subst hp;generalize ns.length=L at*;generalize aK.length=xl at*;go_enter Tryz.func97,Tryz.ntmps97;go_wp2
 all_goals (go_ret;exact⟨by rw [HX.out];rfl,fH⟩)
end
end Go.Proofs.YtjchnliaglecoaaGreatDoor