/- A part of the proof. Conditions: none. -/
import Derived.Test.YtjchnliaglecoaaGreatDoorZz
import Derived.Test.YtjchnliaglecoaaGreatDoorMpX
import Derived.Test.YtjchnliaglecoaaGreatDoorTb
import Derived.Deep.RegionHeld3
import Derived.Test.YtjchnliaglecoaaGreatDoorKfX
import Derived.Test.YtjchnliaglecoaaGreatDoorDwX
import Derived.Outline
import Derived.Deep.QuietTactic
import Derived.BigQuiet
import Derived.Test.YtjchnliaglecoaaGreatDoorTs
import Derived.Maps.OwnSet
set_option linter.unusedVariables false
set_option linter.unusedSimpArgs false
set_option maxRecDepth 100000
set_option maxHeartbeats 8000000
namespace Go.Proofs.YtjchnliaglecoaaGreatDoor
open Go Go.RowKit
def vS:List (List UInt8):=[[48],[49],[50],[51],[52],[53],[54],[55]]
theorem Qn (s:ByteArray) (hs:s.size≤100000) (w:World) (hl:cu w):Calls Tryz.prog 182 #[.string s,.string ⟨#[48,32,49,32,50,32,51,32,52,32,53,32,54,32,55]⟩] w fun e w'=>e=.returned (.bool (vS.contains s.data.toList))∧Below w.heap.size w w':=by
 have:=kN s ⟨#[48,32,49,32,50,32,51,32,52,32,53,32,54,32,55]⟩ hs ai w hl
 rwa [rG (W:=vS) ew ew] at this
def mX:List (List UInt8):=[[116,114,117,101],[102,97,108,115,101]]
theorem P3 (s:ByteArray) (hs:s.size≤100000) (w:World) (hl:cu w):Calls Tryz.prog 182 #[.string s,.string ⟨#[116,114,117,101,32,102,97,108,115,101]⟩] w fun e w'=>e=.returned (.bool (mX.contains s.data.toList))∧Below w.heap.size w w':=by
 have:=kN s ⟨#[116,114,117,101,32,102,97,108,115,101]⟩ hs ai w hl
 rwa [rG (W:=mX) ew ew] at this
def fM:List (List UInt8):=[[97,110,121],[110,105,108],[98,111,111,108],[105,110,116],[115,116,114,105,110,103],[116,97,98,108,101],[116,104,114,101,97,100]]
theorem IJ (s:ByteArray) (hs:s.size≤100000) (w:World) (hl:cu w):Calls Tryz.prog 182 #[.string s,.string ⟨#[97,110,121,32,110,105,108,32,98,111,111,108,32,105,110,116,32,115,116,114,105,110,103,32,116,97,98,108,101,32,116,104,114,101,97,100]⟩] w fun e w'=>e=.returned (.bool (fM.contains s.data.toList))∧Below w.heap.size w w':=by
 have:=kN s ⟨#[97,110,121,32,110,105,108,32,98,111,111,108,32,105,110,116,32,115,116,114,105,110,103,32,116,97,98,108,101,32,116,104,114,101,97,100]⟩ hs ai w hl
 rwa [rG (W:=fM) ew ew] at this
def Ji:List (List UInt8):=[[45],[110,111,116],[35]]
theorem ael (s:ByteArray) (hs:s.size≤100000) (w:World) (hl:cu w):Calls Tryz.prog 182 #[.string s,.string ⟨#[45,32,110,111,116,32,35]⟩] w fun e w'=>e=.returned (.bool (Ji.contains s.data.toList))∧Below w.heap.size w w':=by
 have:=kN s ⟨#[45,32,110,111,116,32,35]⟩ hs ai w hl
 rwa [rG (W:=Ji) ew ew] at this
def iK:List (List UInt8):=[[43],[45],[42],[47,47],[37],[46,46],[61,61],[126,61],[60],[60,61],[62],[62,61]]
theorem Xc (s:ByteArray) (hs:s.size≤100000) (w:World) (hl:cu w):Calls Tryz.prog 182 #[.string s,.string ⟨#[43,32,45,32,42,32,47,47,32,37,32,46,46,32,61,61,32,126,61,32,60,32,60,61,32,62,32,62,61]⟩] w fun e w'=>e=.returned (.bool (iK.contains s.data.toList))∧Below w.heap.size w w':=by
 have:=kN s ⟨#[43,32,45,32,42,32,47,47,32,37,32,46,46,32,61,61,32,126,61,32,60,32,60,61,32,62,32,62,61]⟩ hs ai w hl
 rwa [rG (W:=iK) ew ew] at this
def CA:List (List UInt8):=[[114,101,97,100],[119,114,105,116,101]]
theorem aev (s:ByteArray) (hs:s.size≤100000) (w:World) (hl:cu w):Calls Tryz.prog 182 #[.string s,.string ⟨#[114,101,97,100,32,119,114,105,116,101]⟩] w fun e w'=>e=.returned (.bool (CA.contains s.data.toList))∧Below w.heap.size w w':=by
 have:=kN s ⟨#[114,101,97,100,32,119,114,105,116,101]⟩ hs ai w hl
 rwa [rG (W:=CA) ew ew] at this
theorem sG (s:ByteArray) (hs:s.size≤100000) (w:World) (hl:cu w):Calls Tryz.prog 186 #[.string s] w fun e w'=>e=.returned (.bool (vS.contains s.data.toList))∧Below w.heap.size w w':=by
 have h:=Qn s hs w hl;generalize vS.contains s.data.toList=x at*;have H:=hid h;clear hl h;go_enter Tryz.func186,Tryz.ntmps186;go_wp2_with (go_at_call 182;((with_reducible refine H.out.mono ?_));rintro e w' ⟨rfl,hb⟩;obtain⟨g,rfl⟩:=ay hb;clear hb);exact zb
def eX (l:List UInt8):Bool:=match l with
 |[b]=>Nat.ble 48 b.toNat && Nat.ble b.toNat 55
 |_=>false
theorem Cb (l:List UInt8):vS.contains l=eX l:=by
 match l with
 |[]=>rfl
 |[b]=>
  have h:((List.range 256).all fun n=>decide (vS.contains [n.toUInt8]=eX [n.toUInt8]))=true:=ew;have h2:=of_decide_eq_true (List.all_eq_true.1 h b.toNat (List.mem_range.2 b.toNat_lt));simpa using h2
 |a::b::l=>simp [vS,eX]
theorem Qo:((List.range 256).all fun c=>lW 115 [str [c.toUInt8]] (.bool (eX [c.toUInt8])))=true:=by kernel_rfl
theorem Qp (s:ByteArray) (hs:((s.size:Int)==1)=false) (w:World):Calls Tryz.prog 115 #[.string s] w fun e w'=>e=.returned (.bool false)∧Below w.heap.size w w':=by
 go_enter Tryz.func115,Tryz.ntmps115;exact vA
theorem yq (s:ByteArray) (w:World):Calls Tryz.prog 115 #[.string s] w fun e w'=>e=.returned (.bool (eX s.data.toList))∧Below w.heap.size w w':=by
 have gD:s.data.toList.length=s.size:=ak;by_cases h1:s.size=1
 ·obtain⟨b,hb⟩:∃b,s.data.toList=[b]:=by
   match h:s.data.toList with
   |[]=>rw [h] at gD;simp at gD;omega
   |[b]=>exact⟨b,rfl⟩
   |a::b::l=>rw [h] at gD;simp at gD;omega
  have e:s=⟨[b].toArray⟩:=by rw [←hb]
  have:=wC Qo b.toNat b.toNat_lt w;have e2:b.toNat.toUInt8=b:=ak;rw [e2] at this;rw [e];exact this
 ·have h2:eX s.data.toList=false:=by
   unfold eX;split
   ·rename_i b h;rw [h] at gD;simp at gD;omega
   ·rfl
  rw [h2];refine Qp s ?_ w;cases e:((s.size:Int)==1) with
  |false=>rfl
  |true=>have:=eq_of_beq e;omega
theorem Qq:(fM.all fun l=>lW 118 [str l] (.bool true))=true:=by kernel_rfl
theorem mU {W:List (List UInt8)} {l m:List UInt8} (h:l ∉ W) (hm:m∈W):(l==m)=false:=by
 cases e:l==m with
 |false=>rfl
 |true=>exact absurd (eq_of_beq e ▸ hm) h
theorem Xh (s:ByteArray) (h:s.data.toList ∉ fM) (w:World):Calls Tryz.prog 118 #[.string s] w fun e w'=>e=.returned (.bool false)∧Below w.heap.size w w':=by
 have h0:(s.toList==[97,110,121])=false:=by rw [ByteArray.toList_eq];exact mU h ai
 have h1:(s.toList==[110,105,108])=false:=by rw [ByteArray.toList_eq];exact mU h ai
 have h2:(s.toList==[98,111,111,108])=false:=by rw [ByteArray.toList_eq];exact mU h ai
 have h3:(s.toList==[105,110,116])=false:=by rw [ByteArray.toList_eq];exact mU h ai
 have h4:(s.toList==[115,116,114,105,110,103])=false:=by rw [ByteArray.toList_eq];exact mU h ai
 have h5:(s.toList==[116,97,98,108,101])=false:=by rw [ByteArray.toList_eq];exact mU h ai
 have h6:(s.toList==[116,104,114,101,97,100])=false:=by rw [ByteArray.toList_eq];exact mU h ai
 clear h;go_enter Tryz.func118,Tryz.ntmps118;exact vA
theorem Qm (s:ByteArray) (w:World):Calls Tryz.prog 118 #[.string s] w fun e w'=>e=.returned (.bool (fM.contains s.data.toList))∧Below w.heap.size w w':=by
 by_cases h:s.data.toList∈fM
 ·have:=iT (List.all_eq_true.1 Qq _ h) w;rw [show fM.contains s.data.toList=true by simpa using h];have e:s=⟨s.data.toList.toArray⟩:=ak;rw [e];exact this
 ·rw [show fM.contains s.data.toList=false by simpa using h];exact Xh s h w
end Go.Proofs.YtjchnliaglecoaaGreatDoor
/- A part of the proof. Conditions: none. -/
set_option maxRecDepth 100000
set_option maxHeartbeats 8000000
namespace Go.Proofs.YtjchnliaglecoaaGreatDoor
open Go Go.RowKit
def sS (l:List UInt8):Bool:=match fy l with
 |none=>false
 |some n=>decide (Lib.itoa (wrap64 n)=l)
def iO (l:List UInt8):Bool:=match l with
 |c::32::m=>eX [c] && dM m
 |_=>false
def rT (k:Nat) (l:List UInt8) (nk:Nat):Bool:=
 if k=4∨k=5∨k=17∨k=23 then cY l && decide (bn l<0) else if k=18∨k=25∨k=33 then cY l else if k=16 then true else if k=14 then mX.contains l
 else if k=15 then sS l else if k=31 then fM.contains l else if k=28 then Ji.contains l else if k=27 then iK.contains l else if k=21 then decide (bn l=(nk:Int))
 else if k=36 then dM l else if k=2 then iO l else l.isEmpty
def aM (f K:Nat):Prop:=∀(s:ByteArray),s.size≤100000→∀(kp:Option Addr) (nk kc:Nat) (bE:Int) (w:World),cu w→Calls Tryz.prog f #[.agg #[.int .i64 K,.string s,.slice kp nk kc,.int .i64 bE]] w fun e w'=>e=.returned (.bool (rT K s.data.toList nk))∧Below w.heap.size w w'
theorem aa1:aM 141 1:=by
 exact fP
theorem aa3:aM 141 3:=by
 exact fP
theorem aa4:aM 141 4:=by
 exact FK
theorem aa5:aM 141 5:=by
 exact FK
theorem aa6:aM 141 6:=by
 exact fP
theorem aa7:aM 141 7:=by
 exact fP
theorem aa8:aM 141 8:=by
 exact fP
theorem aa9:aM 141 9:=by
 exact fP
theorem RR:aM 141 10:=by
 exact fP
theorem RT:aM 141 11:=by
 exact fP
theorem RU:aM 141 12:=by
 exact fP
theorem RV:aM 141 13:=by
 exact fP
theorem RX:aM 141 14:=by
 intro s hs kp nk kc bE w hl;show Calls _ _ _ _ fun e w'=>e=.returned (.bool (mX.contains s.data.toList))∧Below w.heap.size w w'
 have H1:Hid (∀w',Below w.heap.size w w'→Calls Tryz.prog 182 #[.string s,.string ⟨#[116,114,117,101,32,102,97,108,115,101]⟩] w' fun e w2=>e=.returned (.bool (mX.contains s.data.toList))∧Below w'.heap.size w' w2):=hid fun w' h=>P3 s hs w' (hl.later h)
 clear hl;generalize mX.contains s.data.toList=x at*;go_enter Tryz.func141,Tryz.ntmps141;go_wp2_with (first
  |(go_at_call 182;((with_reducible refine(H1.out _ ?_).mono ?_));rotate_left;rintro e w' ⟨rfl,hb⟩;obtain⟨g1,rfl⟩:=ay hb;clear hb))
 all_goals first
  |(go_ret;exact⟨rfl,cN⟩)
  |exact by repeat (first|exact Below.refl _ _|refine bG ?_ _|refine bI ?_ _ _|refine bA ?_ _|refine bD ?_|refine bN ?_ _)
theorem RZ:aM 141 16:=by
 intro s hs kp nk kc bE w hl;show Calls _ _ _ _ fun e w'=>e=.returned (.bool true)∧Below w.heap.size w w'
 clear hl;go_enter Tryz.func141,Tryz.ntmps141;exact Ey
theorem R4:aM 141 17:=by
 exact FK
theorem R5:aM 141 18:=by
 exact NI
theorem R6:aM 141 19:=by
 exact fP
theorem R7:aM 141 20:=by
 exact fP
theorem R8:aM 141 21:=by
 intro s hs kp nk kc bE w hl;show Calls _ _ _ _ fun e w'=>e=.returned (.bool (decide (bn s.data.toList=(nk:Int))))∧Below w.heap.size w w'
 have H2:Hid (∀w',Calls Tryz.prog 181 #[.string s] w' fun e w2=>e=.returned (.int .i64 (bn s.data.toList))∧Below w'.heap.size w' w2):=hid fun w'=>by
  have:=vr s w'
  rwa [ByteArray.toList_eq] at this
 clear hl;generalize bn s.data.toList=n at*;go_enter Tryz.func141,Tryz.ntmps141;go_wp2_with fail;go_region_held3 (fun w'=>w'.cell? ⟨w.heap.size,1,none⟩=some (.string s)∧w'.cell? ⟨w.heap.size,2,none⟩=some (.slice kp nk kc)) (simp [go_sem])
  (first|(go_at_call 181;((with_reducible refine(H2.out _).mono ?_));rintro e w' ⟨rfl,hb⟩;obtain⟨g2,rfl⟩:=ay hb;clear hb))
 exact N7
theorem R9:aM 141 22:=by
 exact fP
theorem Sa:aM 141 23:=by
 exact FK
theorem Sb:aM 141 24:=by
 exact fP
theorem Sc:aM 141 25:=by
 exact NI
theorem Sd:aM 141 26:=by
 exact fP
theorem Sg:aM 141 27:=by
 intro s hs kp nk kc bE w hl;show Calls _ _ _ _ fun e w'=>e=.returned (.bool (iK.contains s.data.toList))∧Below w.heap.size w w'
 have H1:Hid (∀w',Below w.heap.size w w'→Calls Tryz.prog 182 #[.string s,.string ⟨#[43,32,45,32,42,32,47,47,32,37,32,46,46,32,61,61,32,126,61,32,60,32,60,61,32,62,32,62,61]⟩] w' fun e w2=>e=.returned (.bool (iK.contains s.data.toList))∧Below w'.heap.size w' w2):=hid fun w' h=>Xc s hs w' (hl.later h)
 clear hl;generalize iK.contains s.data.toList=x at*;go_enter Tryz.func141,Tryz.ntmps141;go_wp2_with (first
  |(go_at_call 182;((with_reducible refine(H1.out _ ?_).mono ?_));rotate_left;rintro e w' ⟨rfl,hb⟩;obtain⟨g1,rfl⟩:=ay hb;clear hb))
 all_goals first
  |(go_ret;exact⟨rfl,cN⟩)
  |exact by repeat (first|exact Below.refl _ _|refine bG ?_ _|refine bI ?_ _ _|refine bA ?_ _|refine bD ?_|refine bN ?_ _)
theorem Sh:aM 141 28:=by
 intro s hs kp nk kc bE w hl;show Calls _ _ _ _ fun e w'=>e=.returned (.bool (Ji.contains s.data.toList))∧Below w.heap.size w w'
 have H1:Hid (∀w',Below w.heap.size w w'→Calls Tryz.prog 182 #[.string s,.string ⟨#[45,32,110,111,116,32,35]⟩] w' fun e w2=>e=.returned (.bool (Ji.contains s.data.toList))∧Below w'.heap.size w' w2):=hid fun w' h=>ael s hs w' (hl.later h)
 clear hl;generalize Ji.contains s.data.toList=x at*;go_enter Tryz.func141,Tryz.ntmps141;go_wp2_with (first
  |(go_at_call 182;((with_reducible refine(H1.out _ ?_).mono ?_));rotate_left;rintro e w' ⟨rfl,hb⟩;obtain⟨g1,rfl⟩:=ay hb;clear hb))
 all_goals first
  |(go_ret;exact⟨rfl,cN⟩)
  |exact by repeat (first|exact Below.refl _ _|refine bG ?_ _|refine bI ?_ _ _|refine bA ?_ _|refine bD ?_|refine bN ?_ _)
theorem Si:aM 141 29:=by
 exact fP
theorem Sj:aM 141 30:=by
 exact fP
theorem Sk:aM 141 31:=by
 intro s hs kp nk kc bE w hl;show Calls _ _ _ _ fun e w'=>e=.returned (.bool (fM.contains s.data.toList))∧Below w.heap.size w w'
 have H1:Hid (∀w',Below w.heap.size w w'→Calls Tryz.prog 182 #[.string s,.string ⟨#[97,110,121,32,110,105,108,32,98,111,111,108,32,105,110,116,32,115,116,114,105,110,103,32,116,97,98,108,101,32,116,104,114,101,97,100]⟩] w' fun e w2=>e=.returned (.bool (fM.contains s.data.toList))∧Below w'.heap.size w' w2):=hid fun w' h=>IJ s hs w' (hl.later h)
 clear hl;generalize fM.contains s.data.toList=x at*;go_enter Tryz.func141,Tryz.ntmps141;go_wp2_with (first
  |(go_at_call 182;((with_reducible refine(H1.out _ ?_).mono ?_));rotate_left;rintro e w' ⟨rfl,hb⟩;obtain⟨g1,rfl⟩:=ay hb;clear hb))
 all_goals first
  |(go_ret;exact⟨rfl,cN⟩)
  |exact by repeat (first|exact Below.refl _ _|refine bG ?_ _|refine bI ?_ _ _|refine bA ?_ _|refine bD ?_|refine bN ?_ _)
theorem Sl:aM 141 32:=by
 exact fP
theorem Sm:aM 141 33:=by
 exact NI
theorem Sn:aM 141 34:=by
 exact fP
theorem Sq:aM 141 35:=by
 exact fP
theorem Sr:aM 141 36:=by
 intro s hs kp nk kc bE w hl;show Calls _ _ _ _ fun e w'=>e=.returned (.bool (dM s.data.toList))∧Below w.heap.size w w'
 have H1:Hid (∀w',Below w.heap.size w w'→Calls Tryz.prog 185 #[.string s] w' fun e w2=>e=.returned (.bool (dM s.data.toList))∧Below w'.heap.size w' w2):=hid fun w' h=>BD s hs w' (hl.later h)
 clear hl;generalize dM s.data.toList=x at*;go_enter Tryz.func141,Tryz.ntmps141;go_wp2_with (first
  |(go_at_call 185;((with_reducible refine(H1.out _ ?_).mono ?_));rotate_left;rintro e w' ⟨rfl,hb⟩;obtain⟨g1,rfl⟩:=ay hb;clear hb))
 all_goals first
  |(go_ret;exact⟨rfl,cN⟩)
  |exact by repeat (first|exact Below.refl _ _|refine bG ?_ _|refine bI ?_ _ _|refine bA ?_ _|refine bD ?_|refine bN ?_ _)
end Go.Proofs.YtjchnliaglecoaaGreatDoor
/- A part of the proof. Conditions: none. -/
set_option maxRecDepth 100000
set_option maxHeartbeats 8000000
namespace Go.Proofs.YtjchnliaglecoaaGreatDoor
open Go Go.RowKit Go.Nodes
def aB (ns:List Nd) (n:Int):Int:=match ns[n.toNat]? with
 |some x=>x.kind
 |none=>0
def aZ (ns:List Nd) (n:Int):List UInt8:=match ns[n.toNat]? with
 |some x=>x.text.data.toList
 |none=>[]
def Qj (ns:List Nd) (n:Int):Int:=match ns[n.toNat]? with
 |some x=>x.kids.getD 0 0
 |none=>0
def xh (ns:List Nd):Nat→Int→Int
 |0,n=>aB ns n
 |f+1,n=>if aB ns n=18∨aB ns n=19∨aB ns n=20 then xh ns f (Qj ns n) else aB ns n
def iR (ns:List Nd) (n:Int):Int:=xh ns (n.toNat+1) n
def jD (ns:List Nd) (x:Nd):Bool:=
 if x.kind=3 then x.kids.dropLast.all (fun k=>decide (aB ns k≠10∧aB ns k≠11))
 else if x.kind=6∨x.kind=7 then decide (iR ns (x.kids.getD 0 0)=17∨iR ns (x.kids.getD 0 0)=21)
 else if x.kind=21 then(if CA.contains x.text.data.toList then decide (aB ns (x.kids.getD 0 0)=15) && eX (aZ ns (x.kids.getD 0 0)) else true)
 else if x.kind=32 then decide ((x.kids.map (aZ ns)).Nodup)
 else if x.kind=1 then decide ((x.kids.dropLast.map (fun k=>(aZ ns k).take 1)).Nodup)
 else true
def bJ (ns:List Nd) (l:List Int):List Nat:=l.map fun k=>(aB ns k).toNat
structure Nu (ns:List Nd) (i:Nat) (x:Nd):Prop where
 k1:1≤x.kind
 yU:x.kind≤36
 place:0≤x.place
 kids:∀k∈x.kids,0≤k∧k<i
 fits:ep (bY x.kind.toNat) (bJ ns x.kids)=true
 text:rT x.kind.toNat x.text.data.toList x.kids.length=true
 more:jD ns x=true
def lu (ns:List Nd) (n:Nat):Prop:=∀(i:Nat) (x:Nd),i<n→ns[i]?=some x→Nu ns i x
theorem Cj {f:List UInt8} {ks:List Nat} (h:ep f ks=true) (hd:f≠[46]):f.length - 2*f.count 42≤ks.length:=by
 unfold ep at h;rw [if_neg hd] at h;split at h
 ·cases h
 ·omega
theorem pQ {ns:List Nd} {x:Nd} (hf:ep (bY x.kind.toNat) (bJ ns x.kids)=true) (hk:x.kind=1∨x.kind=6∨x.kind=7∨x.kind=18∨x.kind=19∨x.kind=20):0<x.kids.length:=by
 have hl:(bJ ns x.kids).length=x.kids.length:=by simp [bJ]
 rw [←hl];rcases hk with h|h|h|h|h|h
 all_goals
  rw [h] at hf;have:=Cj hf ai;exact Nat.lt_of_lt_of_le ai this
theorem aY {ns:List Nd} {i:Nat} {x:Nd} (h:ns[i]?=some x):aB ns (i:Int)=x.kind:=by
 unfold aB;rw [Int.toNat_natCast,h]
theorem PD {ns:List Nd} {i:Nat} {x:Nd} (h:ns[i]?=some x):Qj ns (i:Int)=x.kids.getD 0 0:=by
 unfold Qj;rw [Int.toNat_natCast,h]
theorem gP {ns:List Nd} {i:Nat} {x:Nd} (h:ns[i]?=some x):aZ ns (i:Int)=x.text.data.toList:=by
 unfold aZ;rw [Int.toNat_natCast,h]
theorem fq {w:World} {p:Option Addr} {ns:List Nd} (h:aA w p ns) {i:Nat} (hi:i<ns.length):∃b o,p=some ⟨b,o,none⟩∧b<w.heap.size∧ns[i]?=some ns[i]∧ns[i].fine w∧
  w.cell? ⟨b,o+i*4,none⟩=some (.int .i64 ns[i].kind)∧w.cell? ⟨b,o+i*4+1,none⟩=some (.string ns[i].text)∧
  w.cell? ⟨b,o+i*4+2,none⟩=some (.slice ns[i].kp ns[i].kids.length ns[i].aG)∧w.cell? ⟨b,o+i*4+3,none⟩=some (.int .i64 ns[i].place):=by
 rcases h.2.2 with h0|⟨b,o,hp,hb,hc⟩
 ·subst h0;simp at hi
 ·exact⟨b,o,hp,hb,List.getElem?_eq_getElem hi,h.2.1 _ (List.getElem_mem hi),(hc i hi).1,(hc i hi).2.1,(hc i hi).2.2.1,(hc i hi).2.2.2⟩
theorem kE {w:World} {x:Nd} (h:x.fine w) {j:Nat} (hj:j<x.kids.length):∃b o,x.kp=some ⟨b,o,none⟩∧b<w.heap.size∧w.cell? ⟨b,o+j,none⟩=some (.int .i64 (x.kids.getD j 0)):=by
 rcases h.2.2.2.2.2 with h0|⟨b,o,hp,hb,hc⟩
 ·rw [h0] at hj;simp at hj
 ·refine⟨b,o,hp,hb, ?_⟩;rw [hc j hj];simp [List.getD,List.getElem?_eq_getElem hj]
end Go.Proofs.YtjchnliaglecoaaGreatDoor
/- A part of the proof. Conditions: none. -/
set_option maxRecDepth 100000
set_option maxHeartbeats 8000000
namespace Go.Proofs.YtjchnliaglecoaaGreatDoor
open Go Go.RowKit Go.Nodes
theorem J5 (w:World) (p:Option Addr) (c:Nat) (ns:List Nd) (hn:ns.length≤5000) (ha:aA w p ns) (N:Nat) (hN:N≤ns.length) (hv:lu ns N) (n0:Nat) (Aw:n0<N):
  Calls Tryz.prog 119 #[.slice p ns.length c,.int .i64 (n0:Int)] w fun e w'=>e=.returned (.int .i64 (iR ns n0))∧Below w.heap.size w w':=by
 have Ha:=hid ha;have Hv:=hid hv;have hN2:(N:Int)≤(ns.length:Int):=aa;have hL:(ns.length:Int)≤5000:=aa;obtain⟨L,yK⟩:∃L,L=ns.length:=⟨_,rfl⟩;rw [←yK] at hN2 hL ⊢;have HL:=hid yK;clear ha hv yK;go_enter Tryz.func119,Tryz.ntmps119;go_wp2;go_loop [1] (fun nv=>∃k:Nat,nv=.int .i64 k∧k<N∧Hid (∃f,k<f∧xh ns f k=iR ns n0)) (fun nv=>(intOf nv).toNat)
 case atStart=>exact⟨n0,rfl,Aw,n0+1,by omega,by unfold iR;rw [Int.toNat_natCast]⟩
 case round=>
  have J6:=trivial;exact XI
end Go.Proofs.YtjchnliaglecoaaGreatDoor
/- A part of the proof. Conditions: none. -/
set_option maxRecDepth 100000
set_option maxHeartbeats 8000000
namespace Go.Proofs.YtjchnliaglecoaaGreatDoor
open Go Go.RowKit Go.Nodes
theorem cA {a b:Int} (h:a≠b):(a==b)=false:=by
 cases e:(a==b) with
 |false=>rfl
 |true=>exact absurd (eq_of_beq e) h
theorem AZ (w:World) (p:Option Addr) (c:Nat) (ns:List Nd) (hL:(ns.length:Int)≤5000) (ha:aA w p ns) (n:Nat) (hn:n<ns.length) (hk:ns[n].kind≠1∧ns[n].kind≠3∧ns[n].kind≠6∧ns[n].kind≠7∧ns[n].kind≠21∧ns[n].kind≠32):
  Calls Tryz.prog 66 #[.slice p ns.length c,.int .i64 (n:Int)] w fun e w'=>e=.returned (.bool true)∧Below w.heap.size w w':=by
 obtain⟨b,o,rfl,hb,hx,hf,c0,c1,c2,c3⟩:=fq ha hn;have n0:(0:Int)≤(n:Int):=aa;have n1:(n:Int)<(ns.length:Int):=aa;have e1:=cA hk.1;have e2:=cA hk.2.1;have e3:=cA hk.2.2.1;have e4:=cA hk.2.2.2.1;have e5:=cA hk.2.2.2.2.1;have e6:=cA hk.2.2.2.2.2;clear hk ha hx hf;generalize ns[n]=x at*;generalize ns.length=L at*;generalize x.kind=kx at*;go_enter Tryz.func66,Tryz.ntmps66;exact J8
theorem Dc (w:World) (p:Option Addr) (c:Nat) (ns:List Nd) (hL:(ns.length:Int)≤5000) (ha:aA w p ns) (n:Nat) (hn:n<ns.length) (hv:lu ns n) (hk:ns[n].kind=6∨ns[n].kind=7) (oB:0<ns[n].kids.length) (fc:∀k∈ns[n].kids,0≤k∧k<n):
  Calls Tryz.prog 66 #[.slice p ns.length c,.int .i64 (n:Int)] w fun e w'=>e=.returned (.bool (decide (iR ns (ns[n].kids.getD 0 0)=17∨iR ns (ns[n].kids.getD 0 0)=21)))∧Below w.heap.size w w':=by
 obtain⟨b,o,hp,hb,hx,hf,c0,c1,c2,c3⟩:=fq ha hn;have n0:(0:Int)≤(n:Int):=aa;have n1:(n:Int)<(ns.length:Int):=aa;obtain⟨bk,ok,fO,fu,fI⟩:=kE hf oB;have bZ:=fc (ns[n].kids.getD 0 0) Kf;obtain⟨z,hz⟩:∃z:Nat,ns[n].kids.getD 0 0=(z:Int):=⟨(ns[n].kids.getD 0 0).toNat,by omega⟩;rw [hz] at fI bZ ⊢;rw [Nat.add_zero] at fI;have Kg:Hid (∀w',Below w.heap.size w w'→Calls Tryz.prog 119 #[.slice p ns.length c,.int .i64 (z:Int)] w' fun e w2=>e=.returned (.int .i64 (iR ns z))∧Below w'.heap.size w' w2):=hid fun w' h=>J5 w' p c ns aa (jl h ha) n aa hv z aa
 subst hp;obtain⟨q,hq⟩:∃q,q=ns[n].kids.length:=⟨_,rfl⟩;rw [←hq] at c2 oB;rw [fO] at c2;have q1:(0:Int)<(q:Int):=aa;clear ha hx hf fc fO hz hq hv;generalize ns[n]=x at*;generalize iR ns (z:Int)=r at*;generalize ns.length=L at*;generalize x.kind=kx at*;by_cases r17:r=17
 ·subst r17;rcases hk with rfl|rfl
  all_goals
   go_enter Tryz.func66,Tryz.ntmps66;go_wp2_with (go_at_call 119;((with_reducible refine(Kg.out _ ?_).mono ?_));rotate_left;rintro e w' ⟨rfl,hb⟩;obtain⟨g1,rfl⟩:=ay hb;clear hb)
   all_goals first
    |(go_ret;exact⟨by simp,dX⟩)
    |(repeat (first|exact Below.refl _ _|refine bG ?_ _|refine bI ?_ _ _|refine bA ?_ _))
 ·have ai1:=cA r17;by_cases r21:r=21
  ·subst r21;rcases hk with rfl|rfl
   all_goals
    go_enter Tryz.func66,Tryz.ntmps66;go_wp2_with (go_at_call 119;((with_reducible refine(Kg.out _ ?_).mono ?_));rotate_left;rintro e w' ⟨rfl,hb⟩;obtain⟨g1,rfl⟩:=ay hb;clear hb)
    all_goals first
     |(go_ret;exact⟨by simp,dX⟩)
     |(repeat (first|exact Below.refl _ _|refine bG ?_ _|refine bI ?_ _ _|refine bA ?_ _))
  ·have ai2:=cA r21;have hd:decide (r=17∨r=21)=false:=decide_eq_false aa;rw [hd];clear hd r17 r21;rcases hk with rfl|rfl
   all_goals
    go_enter Tryz.func66,Tryz.ntmps66;go_wp2_with (go_at_call 119;((with_reducible refine(Kg.out _ ?_).mono ?_));rotate_left;rintro e w' ⟨rfl,hb⟩;obtain⟨g1,rfl⟩:=ay hb;clear hb)
    all_goals first
     |(go_ret;exact⟨rfl,dX⟩)
     |(repeat (first|exact Below.refl _ _|refine bG ?_ _|refine bI ?_ _ _|refine bA ?_ _))
end Go.Proofs.YtjchnliaglecoaaGreatDoor
/- A part of the proof. Conditions: none. -/
set_option maxRecDepth 100000
set_option maxHeartbeats 8000000
namespace Go.Proofs.YtjchnliaglecoaaGreatDoor
open Go Go.RowKit Go.Nodes
def dr (ns:List Nd) (k:Int):Bool:=decide (aB ns k≠10∧aB ns k≠11)
theorem rQ {α:Type} (l:List α) (j:Nat) (hj:j+1<l.length):l.dropLast.drop j=l[j]::l.dropLast.drop (j+1):=by
 rw [List.drop_eq_getElem_cons cr];simp
theorem fe {α:Type} (l:List α) (j:Nat) (hj:l.length≤j+1):l.dropLast.drop j=[]:=List.drop_eq_nil_of_le cr
theorem A0 (w:World) (p:Option Addr) (c:Nat) (ns:List Nd) (hL:(ns.length:Int)≤5000) (ha:aA w p ns) (n:Nat) (hn:n<ns.length) (hk:ns[n].kind=3) (gq:(ns[n].kids.length:Int)≤20000) (fc:∀k∈ns[n].kids,0≤k∧k<n):
  Calls Tryz.prog 66 #[.slice p ns.length c,.int .i64 (n:Int)] w fun e w'=>e=.returned (.bool (ns[n].kids.dropLast.all (dr ns)))∧Below w.heap.size w w':=by
 have Kh:=trivial;exact XN
end Go.Proofs.YtjchnliaglecoaaGreatDoor
/- A part of the proof. Conditions: none. -/
set_option maxRecDepth 100000
set_option maxHeartbeats 8000000
namespace Go.Proofs.YtjchnliaglecoaaGreatDoor
open Go Go.RowKit Go.Nodes
def kf (ns:List Nd) (x:Nd):Bool:=if CA.contains x.text.data.toList then decide (aB ns (x.kids.getD 0 0)=15) && eX (aZ ns (x.kids.getD 0 0)) else true
theorem wH (w:World) (p:Option Addr) (c:Nat) (ns:List Nd) (hL:(ns.length:Int)≤5000) (ha:aA w p ns) (n:Nat) (hn:n<ns.length) (hk:ns[n].kind=21) (gq:ns[n].kids.length≤20000) (fc:∀k∈ns[n].kids,0≤k∧k<n)
  (dB:CA.contains ns[n].text.data.toList=true→0<ns[n].kids.length):
  Calls Tryz.prog 66 #[.slice p ns.length c,.int .i64 (n:Int)] w fun e w'=>e=.returned (.bool (kf ns ns[n]))∧Below w.heap.size w w':=by
 obtain⟨b,o,hp,hb,hx,hf,c0,c1,c2,c3⟩:=fq ha hn;subst hp;have n0:(0:Int)≤(n:Int):=aa;have n1:(n:Int)<(ns.length:Int):=aa;rw [hk] at c0;by_cases AA:CA.contains ns[n].text.data.toList=true
 ·have oB:=dB AA;obtain⟨bk,ok,fO,fu,fI⟩:=kE hf oB;have bZ:=fc (ns[n].kids.getD 0 0) Kf;have hB:kf ns ns[n]=(decide (aB ns (ns[n].kids.getD 0 0)=15) && eX (aZ ns (ns[n].kids.getD 0 0))):=by unfold kf;rw [if_pos AA]
  obtain⟨z,hz⟩:∃z:Nat,ns[n].kids.getD 0 0=(z:Int):=⟨(ns[n].kids.getD 0 0).toNat,by omega⟩;rw [hz] at fI bZ hB;rw [Nat.add_zero] at fI;have hzl:z<ns.length:=aa;obtain⟨b2,o2,QG,hb2,hx2,hf2,d0,d1,d2,d3⟩:=fq ha hzl;cases QG;rw [aY hx2,gP hx2] at hB;have Cs:Hid (∀w',Calls Tryz.prog 115 #[.string ns[z].text] w' fun e w2=>e=.returned (.bool (eX ns[z].text.data.toList))∧Below w'.heap.size w' w2):=hid fun w'=>yq _ w'
  have Qu:(ns[n].text.toList==[114,101,97,100])=true∨((ns[n].text.toList==[114,101,97,100])=false∧(ns[n].text.toList==[119,114,105,116,101])=true):=by
   rw [ByteArray.toList_eq];simp only [CA,List.contains_cons,List.contains_nil,Bool.or_false,Bool.or_eq_true] at AA;cases e:(ns[n].text.data.toList==[114,101,97,100]) with
   |true=>exact .inl rfl
   |false=>rw [e] at AA;exact .inr ⟨rfl,by simpa using AA⟩
  have HB:=hid hB;have z0:(0:Int)≤(z:Int):=aa;have z1:(z:Int)<(ns.length:Int):=aa;obtain⟨q,hq⟩:∃q,q=ns[n].kids.length:=⟨_,rfl⟩;rw [←hq] at c2 oB;rw [fO] at c2;have q1:(0:Int)<(q:Int):=aa;clear ha hx hf fc fO hz hq dB hx2 hf2 AA hB hk gq;generalize kf ns ns[n]=R at*;generalize ns[n]=x at*;generalize ns[z]=y at*;generalize ns.length=L at*;generalize y.kind=ky at*;generalize eX y.text.data.toList=ch at*;by_cases Ig:ky=15
  ·subst Ig;have HR:Hid (R=ch):=hid (by rw [HB.out];rfl);clear HB;rcases Qu with Gj|⟨Gj,hw2⟩
   all_goals
    go_enter Tryz.func66,Tryz.ntmps66;go_wp2_with (go_at_call 115;((with_reducible refine(Cs.out _).mono ?_));rintro e w' ⟨rfl,hb⟩;obtain⟨g1,rfl⟩:=ay hb;clear hb);go_ret;exact⟨by rw [HR.out];rfl,cN⟩
  ·have akX:=cA Ig;have HR:Hid (R=false):=hid (by rw [HB.out,decide_eq_false Ig];rfl);clear HB Ig;rcases Qu with Gj|⟨Gj,hw2⟩
   all_goals
    go_enter Tryz.func66,Tryz.ntmps66;go_wp2_with (go_at_call 115;((with_reducible refine(Cs.out _).mono ?_));rintro e w' ⟨rfl,hb⟩;obtain⟨g1,rfl⟩:=ay hb;clear hb);go_ret;exact⟨by rw [HR.out];rfl,cN⟩
 ·have hB:kf ns ns[n]=true:=by unfold kf;rw [if_neg AA]
  have Gj:(ns[n].text.toList==[114,101,97,100])=false:=by
   rw [ByteArray.toList_eq];cases e:(ns[n].text.data.toList==[114,101,97,100]) with
   |false=>rfl
   |true=>exact absurd (by simp [CA,eq_of_beq e]) AA
  have hw2:(ns[n].text.toList==[119,114,105,116,101])=false:=by
   rw [ByteArray.toList_eq];cases e:(ns[n].text.data.toList==[119,114,105,116,101]) with
   |false=>rfl
   |true=>exact absurd (by simp [CA,eq_of_beq e]) AA
  rw [hB];clear hB AA ha hx hf fc dB hk gq;generalize ns[n]=x at*;generalize ns.length=L at*;go_enter Tryz.func66,Tryz.ntmps66;exact Ey
end Go.Proofs.YtjchnliaglecoaaGreatDoor
/- A part of the proof. Conditions: none. -/
set_option maxRecDepth 100000
set_option maxHeartbeats 8000000
namespace Go.Proofs.YtjchnliaglecoaaGreatDoor
open Go Go.RowKit Go.Nodes
theorem Bi (w:World) (p:Option Addr) (c:Nat) (ns:List Nd) (hL:(ns.length:Int)≤5000) (ha:aA w p ns) (n:Nat) (hn:n<ns.length) (hk:ns[n].kind=32) (gq:(ns[n].kids.length:Int)≤20000) (fc:∀k∈ns[n].kids,0≤k∧k<n) (aX:(ns[n].kids.length:Int)≤(ns[n].aG:Int)):
  Calls Tryz.prog 66 #[.slice p ns.length c,.int .i64 (n:Int)] w fun e w'=>e=.returned (.bool (decide ((ns[n].kids.map (aZ ns)).Nodup)))∧Below w.heap.size w w':=by
 have NC:=trivial;exact XN
end Go.Proofs.YtjchnliaglecoaaGreatDoor
/- A part of the proof. Conditions: none. -/
set_option maxRecDepth 100000
set_option maxHeartbeats 8000000
namespace Go.Proofs.YtjchnliaglecoaaGreatDoor
open Go Go.RowKit Go.Nodes
theorem Ni {s t:ByteArray} (hs:0<s.size) (ht:0<t.size):((s[0].toNat:Int)==(t[0].toNat:Int))=decide (s.data.toList.take 1=t.data.toList.take 1):=by
 have e:∀(u:ByteArray) (h:0<u.size),u.data.toList.take 1=[u[0]]:=fun u h=>by
  have hl:0<u.data.toList.length:=kO;rw [List.take_one,List.head?_eq_getElem?,List.getElem?_eq_getElem hl];exact BK
 rw [e s hs,e t ht];cases h:((s[0].toNat:Int)==(t[0].toNat:Int)) with
 |true=>
  have:=eq_of_beq h;have h2:s[0]=t[0]:=UInt8.toNat_inj.1 aa;rw [h2,decide_eq_true rfl]
 |false=>
  rw [decide_eq_false];intro h2;rw [List.cons.inj h2|>.1] at h;simp at h
theorem wI (w:World) (p:Option Addr) (c:Nat) (ns:List Nd) (hL:(ns.length:Int)≤5000) (ha:aA w p ns) (n:Nat) (hn:n<ns.length) (hk:ns[n].kind=1) (gq:(ns[n].kids.length:Int)≤20000) (fc:∀k∈ns[n].kids,0≤k∧k<n) (dB:0<ns[n].kids.length) (XA:∀k∈ns[n].kids.dropLast,0<(aZ ns k).length) (aX:(ns[n].kids.length:Int)≤(ns[n].aG:Int)):
  Calls Tryz.prog 66 #[.slice p ns.length c,.int .i64 (n:Int)] w fun e w'=>e=.returned (.bool (decide ((ns[n].kids.dropLast.map (fun k=>(aZ ns k).take 1)).Nodup)))∧Below w.heap.size w w':=by
 obtain⟨b,o,hp,hb,hx,hf,c0,c1,c2,c3⟩:=fq ha hn;subst hp;have n0:(0:Int)≤(n:Int):=aa;have n1:(n:Int)<(ns.length:Int):=aa;have qT:=hid fc;have Htx:=hid XA;have Hf:=hid hf;have Ha:=hid ha;have hns:ns.length≤5000:=aa;obtain⟨L,yK⟩:∃L,L=ns.length:=⟨_,rfl⟩;rw [←yK] at hL n1 hns ⊢;rw [hk] at c0;have HL:=hid yK;clear hx hf fc ha hk yK XA;generalize ns[n]=x at*;obtain⟨q,hq⟩:∃q,q=x.kids.length:=⟨_,rfl⟩;rw [←hq] at c2 gq aX dB;obtain⟨r,hr⟩:∃r,q=r+1:=⟨q - 1,by omega⟩;have hr1:(q:Int) - 1=(r:Int):=aa;have hr2:(r:Int)≤(x.aG:Int):=aa;have hr3:(1:Int)≤(q:Int):=aa;have Hr:=hid hr;clear hr;have Hq:=hid hq;clear hq;go_enter Tryz.func66,Tryz.ntmps66;go_wp2;go_loopw [139] (fun iv wr=>∃(i:Nat) (g:fk),iv=.int .i64 i∧i≤r∧wr=grow (w.alloc (.cells #[Value.int IntKind.i64 1,Value.string x.text,Value.slice x.kp q x.aG,Value.int IntKind.i64 x.place] 56)) g∧Hid (((x.kids.take i).map (fun k=>(aZ ns k).take 1)).Nodup)) (fun iv _=>r - (intOf iv).toNat)
 case atStart=>exact⟨0,_,rfl,by omega,(er _).symm,by simp [Hid]⟩
 case round=>
  obtain⟨i,g,rfl,hi,rfl,hR⟩:=hrel;by_cases hiq:i<r
  ·have lq:i<x.kids.length:=by have:=Hq.out;have:=Hr.out;omega
   obtain⟨bk,ok,fO,fu,fI⟩:=kE Hf.out lq;have sj:x.kids.getD i 0=x.kids[i]:=by simp [List.getD,List.getElem?_eq_getElem lq]
   have bZ:=qT.out x.kids[i] (List.getElem_mem lq);rw [sj] at fI;obtain⟨z,hz⟩:∃z:Nat,x.kids[i]=(z:Int):=⟨(x.kids[i]).toNat,by omega⟩;rw [hz] at bZ fI;have hzl:z<ns.length:=aa;obtain⟨b2,o2,QG,hb2,hx2,hf2,d0,d1,d2,d3⟩:=fq Ha.out hzl;cases QG;have hti:=gP hx2;have z0:(0:Int)≤(z:Int):=aa;have z1:(z:Int)<(L:Int):=nS;have i0:(0:Int)≤(i:Int):=aa;have i1:(i:Int)<(r:Int):=aa;have i2:(i:Int)≤(x.aG:Int):=aa;have sx:x.kids.take (i+1)=x.kids.take i++[(z:Int)]:=by rw [List.take_add_one,List.getElem?_eq_getElem lq,hz];rfl
   have hs1:0<ns[z].text.size:=by
    have h2:(z:Int)∈x.kids.dropLast:=by
     rw [←hz];have h3:i<x.kids.dropLast.length:=Nj;have h4:x.kids.dropLast[i]=x.kids[i]:=ak;rw [←h4];exact List.getElem_mem h3
    have:=Htx.out _ h2;rw [hti] at this;simpa using this
   have s1a:(0:Int)<(ns[z].text.size:Int):=aa;have Hti:=hid hti;have BL:=hid sx;have Hkp:=hid fO;have Hbk:=hid fu;rw [fO] at c2 ⊢;clear hti sx fO sj hx2 hf2 hz lq d0 d2 d3;generalize ns[z].text=s1 at*;go_wp2;go_loopw [149] (fun jv wr=>∃(j:Nat) (g2:fk),jv=.int .i64 j∧j≤i∧wr=grow (w.alloc (.cells #[Value.int IntKind.i64 1,Value.string x.text,Value.slice (some ⟨bk,ok,none⟩) q x.aG,Value.int IntKind.i64 x.place] 56)) g2∧Hid (∀j':Nat,j'<j→(aZ ns (x.kids.getD j' 0)).take 1≠s1.data.toList.take 1)) (fun jv _=>i - (intOf jv).toNat)
   case atStart=>exact⟨0,g,rfl,by omega,rfl,fun j' h=>by omega⟩
   case round=>
    obtain⟨j,g2,rfl,hj,rfl,hJ⟩:=hrel;by_cases MH:j<i
    ·have zM:j<x.kids.length:=by have:=Hq.out;have:=Hr.out;omega
     obtain⟨bk',ok',qb,BM,hcj⟩:=kE Hf.out zM;have sj:x.kids.getD j 0=x.kids[j]:=Nk;have Nl:=qT.out x.kids[j] (List.getElem_mem zM);rw [Hkp.out] at qb;cases qb;rw [sj] at hcj;obtain⟨y,hy⟩:∃y:Nat,x.kids[j]=(y:Int):=⟨(x.kids[j]).toNat,by omega⟩;rw [hy] at Nl hcj;have hyl:y<ns.length:=aa;obtain⟨b3,o3,Rw,hb3,hx3,hf3,f0,f1,f2,f3⟩:=fq Ha.out hyl;cases Rw;have htj:=gP hx3;have y0:(0:Int)≤(y:Int):=aa;have y1:(y:Int)<(L:Int):=nS;have j0:(0:Int)≤(j:Int):=aa;have j1:(j:Int)<(i:Int):=aa;have hs2:0<ns[y].text.size:=by
      have h2:(y:Int)∈x.kids.dropLast:=by
       rw [←hy];have h3:j<x.kids.dropLast.length:=Nj;have h4:x.kids.dropLast[j]=x.kids[j]:=ak;rw [←h4];exact List.getElem_mem h3
      have:=Htx.out _ h2;rw [htj] at this;simpa using this
     have s2a:(0:Int)<(ns[y].text.size:Int):=aa;have Htj:=hid htj;have Hgj:=hid (sj.trans hy);clear htj sj hx3 hf3 hy f0 f2 f3 BM;generalize ns[y].text=s2 at*;have hfe:=hid (Ni hs1 hs2);obtain⟨b1,ajV⟩:∃b1,(s1[0]'hs1).toNat=b1:=⟨_,rfl⟩;obtain⟨b2',ajW⟩:∃b2,(s2[0]'hs2).toNat=b2:=⟨_,rfl⟩;have abF:=hfe.out;rw [ajV,ajW] at abF;have Hfe:=hid abF;clear hfe abF;cases he:((b1:Int)==(b2':Int)) with
     |true=>
      have hno:¬((x.kids.dropLast.map (fun k=>(aZ ns k).take 1)).Nodup):=fun h=>by
       have h2:(x.kids.dropLast.map (fun k=>(aZ ns k).take 1))[i]?=(x.kids.dropLast.map (fun k=>(aZ ns k).take 1))[j]?:=by
        have e1:x.kids[i]?=some (z:Int):=by
         have:=BL.out;have h3:=congrArg (fun l=>l[i]?) this;simp only [List.getElem?_take_of_lt (Nat.lt_succ_self i)] at h3;rw [h3,List.getElem?_append_right cr];simp [show min i x.kids.length=i by have:=Hq.out;have:=Hr.out;omega]
        have e2:x.kids[j]?=some (y:Int):=by
         exact Nn
        have d1:x.kids.dropLast[i]?=x.kids[i]?:=by rw [List.dropLast_eq_take,List.getElem?_take_of_lt (by have:=Hq.out;have:=Hr.out;omega)]
        have d2:x.kids.dropLast[j]?=x.kids[j]?:=by rw [List.dropLast_eq_take,List.getElem?_take_of_lt (by have:=Hq.out;have:=Hr.out;omega)]
        rw [List.getElem?_map,List.getElem?_map,d1,d2,e1,e2];simp only [Option.map_some];rw [Hti.out,Htj.out];congr 1;have:=Hfe.out;rw [he] at this;exact of_decide_eq_true this.symm
       have h4:=(List.getElem?_inj Nj h).1 h2;omega
      have HD:Hid (decide ((x.kids.dropLast.map (fun k=>(aZ ns k).take 1)).Nodup)=false):=hid (decide_eq_false hno);clear hno;go_wp2;go_quiet (fail);exact YD
     |false=>
      have Hne:Hid (∀j':Nat,j'<j+1→(aZ ns (x.kids.getD j' 0)).take 1≠s1.data.toList.take 1):=hid fun j' h=>by
       rcases Nat.lt_or_ge j' j with h2|h2
       ·exact hJ.out j' h2
       ·obtain rfl:j'=j:=by omega
        rw [Hgj.out,Htj.out];intro e;have h5:=Hfe.out;rw [he] at h5;exact absurd (decide_eq_true e.symm) (by rw [←h5];simp)
      exact Np
    ·obtain rfl:j=i:=by omega
     have HN:Hid (((x.kids.take (j+1)).map (fun k=>(aZ ns k).take 1)).Nodup):=hid (by
      rw [BL.out,List.map_append,List.map_cons,List.map_nil,Hti.out,List.nodup_append];refine⟨hR.out,by simp,fun a ha b' hb' e=>?_⟩;simp at hb';subst hb';subst e;obtain⟨k,aR,hk2⟩:=List.mem_map.1 ha;obtain⟨j',hj',hk3⟩:=List.mem_iff_getElem.1 aR;rw [List.length_take] at hj';rw [List.getElem_take] at hk3;refine hJ.out j' aa ?_;rw [List.getD,List.getElem?_eq_getElem aa,Option.getD_some,hk3];exact hk2)
     exact Nq
  ·obtain rfl:i=r:=by omega
   have hr:=hR.out;rw [show x.kids.take i=x.kids.dropLast by rw [List.dropLast_eq_take];congr 1;have:=Hq.out;have:=Hr.out;omega] at hr;have HD:Hid (decide ((x.kids.dropLast.map (fun k=>(aZ ns k).take 1)).Nodup)=true):=hid (decide_eq_true hr);have j1:¬(i:Int)<(i:Int):=aa;clear hR hr;exact YD
end Go.Proofs.YtjchnliaglecoaaGreatDoor
/- A part of the proof. Conditions: none. -/
set_option maxRecDepth 100000
set_option maxHeartbeats 8000000
namespace Go.Proofs.YtjchnliaglecoaaGreatDoor
open Go Go.RowKit Go.Nodes
structure L5 (ns:List Nd) (i:Nat) (x:Nd):Prop where
 k1:1≤x.kind
 yU:x.kind≤36
 kids:∀k∈x.kids,0≤k∧k<i
 fits:ep (bY x.kind.toNat) (bJ ns x.kids)=true
 text:rT x.kind.toNat x.text.data.toList x.kids.length=true
theorem Bh {k:Nat} (h:nG k 104=true):k=2:=Nat.eq_of_beq_eq_true h
theorem GY {ks:List Nat} (h:ep [104,42,98] ks=true):∀k∈ks.dropLast,k=2:=by
 unfold ep at h;rw [if_neg ai] at h;split at h
 ·cases h
 ·split at h
  ·cases h
  ·rw [show([104,42,98]:List UInt8).length - 2*([104,42,98]:List UInt8).count 42=1 by decide] at h;have h2:((ks.take (ks.length - 1)).all (fun k=>nG k 104) && jM (ks.length - 1) [42,98] (ks.drop (ks.length - 1)))=true:=h;rw [Bool.and_eq_true] at h2;intro k hk;rw [List.dropLast_eq_take] at hk;exact Bh (List.all_eq_true.1 h2.1 k hk)
theorem G3 {l:List UInt8} (h:iO l=true):0<l.length:=by
 cases l with
 |nil=>cases h
 |cons a l=>simp
theorem X7 {l:List UInt8} (h:CA.contains l=true):1≤bn l:=by
 simp only [CA,List.contains_cons,List.contains_nil,Bool.or_false,Bool.or_eq_true] at h;rcases h with h|h
 ·rw [eq_of_beq h];decide
 ·rw [eq_of_beq h];decide
def iN (ns:List Nd):Prop:=∀x∈ns,x.kids.length≤x.aG
theorem xE {ns:List Nd} {n:Nat} {x:Nd} (hx:L5 ns n x) (hv:lu ns n) (hn:n≤ns.length) (hk:x.kind=1):∀k∈x.kids.dropLast,0<(aZ ns k).length:=by
 intro k hk2;have hf:=hx.fits;rw [hk] at hf;have h1:=GY hf (aB ns k).toNat (by
  unfold bJ;rw [←List.map_dropLast];exact List.mem_map.2 ⟨k,hk2,rfl⟩)
 have bZ:=hx.kids k (List.dropLast_subset _ hk2);obtain⟨z,rfl⟩:∃z:Nat,k=(z:Int):=⟨k.toNat,by omega⟩;have hzl:z<ns.length:=aa;have hg:ns[z]?=some ns[z]:=List.getElem?_eq_getElem hzl;have hvz:=hv z _ aa hg;rw [aY hg] at h1;rw [gP hg];have:=hvz.text;rw [h1] at this;exact G3 this
theorem GV (w:World) (p:Option Addr) (c:Nat) (ns:List Nd) (hs:Small ns) (hc:iN ns) (ha:aA w p ns) (n:Nat) (hn:n<ns.length) (hv:lu ns n) (hx:L5 ns n ns[n]):
  Calls Tryz.prog 66 #[.slice p ns.length c,.int .i64 (n:Int)] w fun e w'=>e=.returned (.bool (jD ns ns[n]))∧Below w.heap.size w w':=by
 have hL:(ns.length:Int)≤5000:=by have:=hs.1;omega
 have gq:=(hs.2 ns[n] (List.getElem_mem hn)).1;have aX:=hc ns[n] (List.getElem_mem hn);unfold jD;by_cases h3:ns[n].kind=3
 ·rw [if_pos h3];exact A0 w p c ns hL ha n hn h3 aa hx.kids
 rw [if_neg h3];by_cases h67:ns[n].kind=6∨ns[n].kind=7
 ·rw [if_pos h67];exact Dc w p c ns hL ha n hn hv h67 (pQ hx.fits aa) hx.kids
 rw [if_neg h67];by_cases QJ:ns[n].kind=21
 ·rw [if_pos QJ];refine wH w p c ns hL ha n hn QJ gq hx.kids fun h=>?_
  have:=hx.text;rw [QJ] at this;have h2:bn ns[n].text.data.toList=(ns[n].kids.length:Int):=of_decide_eq_true this;have:=X7 h;omega
 rw [if_neg QJ];by_cases CB:ns[n].kind=32
 ·rw [if_pos CB];exact Bi w p c ns hL ha n hn CB aa hx.kids aa
 rw [if_neg CB];by_cases h1:ns[n].kind=1
 ·rw [if_pos h1];exact wI w p c ns hL ha n hn h1 aa hx.kids (pQ hx.fits aa) (xE hx hv aa h1) aa
 rw [if_neg h1];exact AZ w p c ns hL ha n hn ⟨h1,h3,by omega,by omega,QJ,CB⟩
end Go.Proofs.YtjchnliaglecoaaGreatDoor
/- A part of the proof. Conditions: none. -/
set_option maxRecDepth 100000
set_option maxHeartbeats 8000000
namespace Go.Proofs.YtjchnliaglecoaaGreatDoor
open Go Go.RowKit Go.Nodes Go.WideMaps Go.Maps Go.ChangeShapes
structure qq (D:DataW Unit) (l:List (List UInt8)):Prop where
 tidy:Tidy D
 size:Maps.size D≤l.length
 nodup:Maps.size D=l.length↔l.Nodup
 has:∀x,Maps.has D (.string x)=true↔x∈l
theorem Gb (x:List UInt8):WideAt.IsKeyLit (.string x):=by unfold WideAt.IsKeyLit;trivial
theorem qq.nil:qq (.map []) []:=⟨tidy_empty,by simp [size_eq],by simp [size_eq],by simp [has_eq]⟩
theorem qq.snoc {D:DataW Unit} {l:List (List UInt8)} (h:qq D l) (x:List UInt8) (d:DataW Unit):qq (D.put (.string x) d) (l++[x]):=by
 have hs:=size_put (k:=.string x) h.tidy d;have h1:=h.size;have h2:=h.nodup;have hx:=h.has x;refine⟨h.tidy.put (Gb x) d, ?_, ?_,fun y=>?_⟩
 ·rw [hs];split<;>simp<;>omega
 ·rw [hs,List.nodup_append];simp only [List.length_append,List.length_cons,List.length_nil];by_cases hm:x∈l
  ·rw [if_pos (hx.2 hm)];constructor
   ·intro;omega
   ·rintro⟨_,_,h3⟩;exact absurd rfl (h3 x hm x ak)
  ·rw [if_neg (fun h=>hm (hx.1 h))];constructor
   ·intro h3;exact⟨h2.1 aa,by simp,fun a ha b hb e=>by simp at hb;subst hb e;exact hm ha⟩
   ·rintro⟨h3,_,_⟩;have:=h2.2 h3;omega
 ·by_cases e:y=x
  ·subst e;rw [has_put_same h.tidy.isMap (Gb y)];simp
  ·rw [has_put_other (fun h=>e (by cases h;rfl)),h.has y];simp [e]
def Ag (w:World) (p q:Option Addr) (n:Nat) (ts:List ByteArray):Prop:=∀(i:Nat) (t:ByteArray),ts[i]?=some t→
 ∃b o bq oq kk:Nat,p=some ⟨b,o,none⟩∧q=some ⟨bq,oq,none⟩∧b<w.heap.size∧bq<w.heap.size∧kk<n∧w.cell? ⟨bq,oq+i,none⟩=some (.int .i64 kk)∧w.cell? ⟨b,o+kk*4+1,none⟩=some (.string t)
theorem VF (s:ByteArray) (hs:s.size≤20000) (w:World):Calls Tryz.prog 188 #[.string s] w fun e w'=>e=.returned (.string s)∧w=w':=by
 go_enter Tryz.func188,Tryz.ntmps188;go_wp2;go_ret;exact⟨rfl,rfl⟩
theorem EO (w:World) (p q:Option Addr) (n c m d:Nat) (hn:(n:Int)≤5000) (hm:(m:Int)≤20000) (ts:List ByteArray) (wj:ts.length=m) (hk:Ag w p q n ts) (hc:∀s∈ts,s.size≤20000):
  Calls Tryz.prog 187 #[.slice p n c,.slice q m d,.func (.func 188) #[] #[]] w fun e w'=>e=.returned (.bool (decide ((ts.map (fun s:ByteArray=>s.data.toList)).Nodup)))∧Below w.heap.size w w':=by
 have A4:= @run_makeMap Tryz.prog;have Hk:=hid hk;have Hts:=hid wj;have Hc:=hid hc;clear hk wj hc;go_enter Tryz.func187,Tryz.ntmps187;go_wp2;go_loopw [13] (fun i wr=>∃(k:Nat) (D:DataW Unit),k≤m∧i=.int .i64 k∧wr.ownsMap Tryz.prog 9 (plainElem Tryz.prog 3) w.heap.size k D∧Below w.heap.size w wr∧Hid (qq D ((ts.map (fun s:ByteArray=>s.data.toList)).take k)))
  (fun i _=>m - (intOf i).toNat)
 case atStart=>exact⟨0,_,Nat.zero_le _,rfl,World.ownsMap_made _ _ _ _,dX,hid qq.nil⟩
 case round=>
  obtain⟨k,D,hk,rfl,hown,wo,hS⟩:=hrel;by_cases hlt:k<m
  ·have Pn:=trivial;exact Z8
  ·obtain rfl:k=m:=by omega
   have QL:=hS.out;rw [List.take_of_length_le (by rw [List.length_map,Hts.out];exact Nat.le_refl _)] at QL;have hres:Hid ((((Maps.size D:Nat):Int)==((k:Nat):Int))=decide ((ts.map (fun s:ByteArray=>s.data.toList)).Nodup)):=hid (by
    have h3:=QL.nodup;rw [List.length_map,Hts.out] at h3;by_cases hd:(ts.map (fun s:ByteArray=>s.data.toList)).Nodup
    ·rw [decide_eq_true hd,h3.2 hd];simp
    ·rw [decide_eq_false hd];cases e:(((Maps.size D:Nat):Int)==((k:Nat):Int)) with
     |false=>rfl
     |true=>exact absurd (h3.1 (by have:=eq_of_beq e;omega)) hd)
   exact Oe
theorem Pm (s:ByteArray) (hs:0<s.size∧s.size≤20000) (w:World):Calls Tryz.prog 189 #[.string s] w fun e w'=>e=.returned (.string (s.extract 0 1))∧w=w':=by
 obtain⟨h0,h1⟩:=hs;go_enter Tryz.func189,Tryz.ntmps189;go_wp2;go_ret;exact⟨rfl,rfl⟩
theorem EP (w:World) (p q:Option Addr) (n c m d:Nat) (hn:(n:Int)≤5000) (hm:(m:Int)≤20000) (ts:List ByteArray) (wj:ts.length=m) (hk:Ag w p q n ts) (hc:∀s∈ts,0<s.size∧s.size≤20000):
  Calls Tryz.prog 187 #[.slice p n c,.slice q m d,.func (.func 189) #[] #[]] w fun e w'=>e=.returned (.bool (decide ((ts.map (fun s:ByteArray=>s.data.toList.take 1)).Nodup)))∧Below w.heap.size w w':=by
 have A4:= @run_makeMap Tryz.prog;have Hk:=hid hk;have Hts:=hid wj;have Hc:=hid hc;clear hk wj hc;go_enter Tryz.func187,Tryz.ntmps187;go_wp2;go_loopw [13] (fun i wr=>∃(k:Nat) (D:DataW Unit),k≤m∧i=.int .i64 k∧wr.ownsMap Tryz.prog 9 (plainElem Tryz.prog 3) w.heap.size k D∧Below w.heap.size w wr∧Hid (qq D ((ts.map (fun s:ByteArray=>s.data.toList.take 1)).take k)))
  (fun i _=>m - (intOf i).toNat)
 case atStart=>exact⟨0,_,Nat.zero_le _,rfl,World.ownsMap_made _ _ _ _,dX,hid qq.nil⟩
 case round=>
  obtain⟨k,D,hk,rfl,hown,wo,hS⟩:=hrel;by_cases hlt:k<m
  ·have Po:=trivial;exact Z8
  ·obtain rfl:k=m:=by omega
   have QL:=hS.out;rw [List.take_of_length_le (by rw [List.length_map,Hts.out];exact Nat.le_refl _)] at QL;have hres:Hid ((((Maps.size D:Nat):Int)==((k:Nat):Int))=decide ((ts.map (fun s:ByteArray=>s.data.toList.take 1)).Nodup)):=hid (by
    have h3:=QL.nodup;rw [List.length_map,Hts.out] at h3;by_cases hd:(ts.map (fun s:ByteArray=>s.data.toList.take 1)).Nodup
    ·rw [decide_eq_true hd,h3.2 hd];simp
    ·rw [decide_eq_false hd];cases e:(((Maps.size D:Nat):Int)==((k:Nat):Int)) with
     |false=>rfl
     |true=>exact absurd (h3.1 (by have:=eq_of_beq e;omega)) hd)
   exact Oe
end Go.Proofs.YtjchnliaglecoaaGreatDoor
/- A part of the proof. Conditions: none. -/
set_option maxRecDepth 100000
set_option maxHeartbeats 8000000
namespace Go.Proofs.YtjchnliaglecoaaGreatDoor
open Go Go.RowKit Go.Nodes
theorem Na {a b:Int} (h:a≠b):(a !=b)=true:=by simp [bne,cA h]
@[reducible] def Fz (x : Nd) : Value := .agg #[.int .i64 x.kind, .string x.text, .slice x.kp x.kids.length x.aG, .int .i64 x.place]
theorem D7 (w:World) (p:Option Addr) (L c:Nat) (x:Nd) (hk:x.kind≠1∧x.kind≠3∧x.kind≠6∧x.kind≠7∧x.kind≠21∧x.kind≠32):
  Calls Tryz.prog 142 #[.slice p L c,Fz x] w fun e w'=>e=cP true∧Below w.heap.size w w':=by
 have e1:=cA hk.1;have e2:=cA hk.2.1;have e3:=cA hk.2.2.1;have e4:=cA hk.2.2.2.1;have e5:=cA hk.2.2.2.2.1;have e6:=cA hk.2.2.2.2.2;obtain⟨kx,text,kp,aG,kids,place⟩:=x;simp only at e1 e2 e3 e4 e5 e6;clear hk;generalize kids.length=q;go_enter Tryz.func142,Tryz.ntmps142;exact Nb
theorem D8 (w:World) (p:Option Addr) (c:Nat) (ns:List Nd) (hL:(ns.length:Int)≤5000) (ha:aA w p ns) (n:Nat) (hn:n<ns.length) (text:ByteArray) (kp:Option Addr) (aG:Nat) (kids:List Int) (place:Int) (hf:bC w kp kids) (gq:(kids.length:Int)≤20000) (fc:∀k∈kids,0≤k∧k<n):
  Calls Tryz.prog 142 #[.slice p ns.length c,Fz ⟨3,text,kp,aG,kids,place⟩] w fun e w'=>e=cP (kids.dropLast.all (dr ns))∧Below w.heap.size w w':=by
 have qT:=hid fc;have Hf:=hid hf;have Ha:=hid ha;have hns:ns.length≤5000:=aa;obtain⟨L,yK⟩:∃L,L=ns.length:=⟨_,rfl⟩;rw [←yK] at hL hns ⊢;have HL:=hid yK;obtain⟨q,hq⟩:∃q,q=kids.length:=⟨_,rfl⟩;unfold Fz;simp only;rw [←hq] at gq ⊢;have Hq:=hid hq;clear fc hf ha yK hq;go_enter Tryz.func142,Tryz.ntmps142;go_wp2;go_loopw [14] (fun iv wr=>∃(j:Nat) (g:fk),iv=.int .i64 j∧j≤q∧wr=grow (w.alloc (.cells #[.int .i64 3,.string text,.slice kp q aG,.int .i64 place] 56)) g∧Hid ((kids.dropLast.drop j).all (dr ns)=kids.dropLast.all (dr ns))) (fun iv _=>q - (intOf iv).toNat)
 case atStart=>exact⟨0,_,rfl,by omega,(er _).symm,rfl⟩
 case round=>
  obtain⟨j,g,rfl,hj,rfl,hR⟩:=hrel;by_cases hjq:j<q
  ·have zM:j<kids.length:=by have:=Hq.out;omega
   rcases Hf.out with ix|⟨bk,ok,fO,fu,fI⟩
   ·subst ix;simp at zM
   subst fO;replace fI:=fI j zM;have bZ:=qT.out kids[j] (List.getElem_mem zM);have j0:(0:Int)≤(j:Int):=aa;have j1:(j:Int)<(q:Int):=aa;by_cases AG:j+1<q
   ·have hd:=rQ kids j mC;have hr:=hR.out;rw [hd,List.all_cons] at hr;obtain⟨z,hz⟩:∃z:Nat,kids[j]=(z:Int):=⟨(kids[j]).toNat,by omega⟩;rw [hz] at hr bZ fI;have hzl:z<ns.length:=aa;obtain⟨b2,o2,QG,hb2,hx2,hf2,d0,d1,d2,d3⟩:=fq Ha.out hzl;subst QG;have hka:=aY hx2;have hP:dr ns (z:Int)=decide (ns[z].kind≠10∧ns[z].kind≠11):=by unfold dr;rw [hka]
    rw [hP] at hr;have z0:(0:Int)≤(z:Int):=aa;have z1:(z:Int)<(L:Int):=nS;have j2:=cA (show(j:Int)≠(q:Int) - 1 by omega);have Hr:=hid hr;clear hR hr hd hx2 hf2 hka hP hz zM d1 d2 d3;generalize ns[z]=y at*;generalize y.kind=ky at*;by_cases Nc:ky=10
    ·have HR:Hid (kids.dropLast.all (dr ns)=false):=hid (by rw [←Hr.out,Nc];rfl);subst Nc;exact Yy
    ·have ajS:=Na Nc;by_cases Nf:ky=11
     ·have HR:Hid (kids.dropLast.all (dr ns)=false):=hid (by rw [←Hr.out,Nf];rfl);subst Nf;exact Yy
     ·have ajT:=Na Nf;have HR:Hid ((kids.dropLast.drop (j+1)).all (dr ns)=kids.dropLast.all (dr ns)):=hid (by
       rw [←Hr.out,decide_eq_true (⟨Nc,Nf⟩:ky≠10∧ky≠11),Bool.true_and])
      clear Hr Nc Nf;go_wp2_with (go_at_call 139;((with_reducible refine(dU _).mono ?_));rintro e w' ⟨rfl,hw⟩;rw [hw];clear hw w');go_roundw
      case rel=>exact⟨j+1,_,by go_num,by omega,rfl,HR⟩
      case measure=>simp [intOf];omega
   ·have hd:=fe kids j mC;have iM:=fe kids (j+1) mC;have hr:=hR.out;rw [hd] at hr;have Hr:Hid ((kids.dropLast.drop (j+1)).all (dr ns)=kids.dropLast.all (dr ns)):=hid (by rw [iM];exact hr);have j2:((j:Int)==(q:Int) - 1)=true:=cr;generalize kids[j]=u at*;clear hR hr hd iM;go_wp2_with (go_at_call 139;((with_reducible refine(dU _).mono ?_));rintro e w' ⟨rfl,hw⟩;rw [hw];clear hw w');go_roundw
    case rel=>exact⟨j+1,_,by go_num,by omega,rfl,Hr⟩
    case measure=>simp [intOf];omega
  ·obtain rfl:j=q:=by omega
   have hr:=hR.out;rw [fe kids j mC] at hr;have Hr:=hid (show kids.dropLast.all (dr ns)=true from hr.symm);have j1:¬(j:Int)<(j:Int):=aa;clear hR hr;go_wp2;go_end0;exact agH
end Go.Proofs.YtjchnliaglecoaaGreatDoor