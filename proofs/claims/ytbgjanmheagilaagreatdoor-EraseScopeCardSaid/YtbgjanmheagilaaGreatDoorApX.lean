/- A part of the proof. Conditions: none. -/
import Derived.Test.YtbgjanmheagilaaGreatDoorZz
import Derived.Test.YtbgjanmheagilaaGreatDoorMpX
import Derived.Test.YtbgjanmheagilaaGreatDoorTb
import Derived.Deep.RegionHeld3
import Derived.Test.YtbgjanmheagilaaGreatDoorKfX
import Derived.Test.YtbgjanmheagilaaGreatDoorDpX
import Derived.Outline
import Derived.Deep.QuietTactic
import Derived.BigQuiet
import Derived.Test.YtbgjanmheagilaaGreatDoorTs
import Derived.Laws.AppendOwn
import Derived.Test.YtbgjanmheagilaaGreatDoorDw
set_option linter.unusedVariables false
set_option linter.unusedSimpArgs false
set_option maxRecDepth 100000
set_option maxHeartbeats 8000000
namespace Go.Proofs.YtbgjanmheagilaaGreatDoor
open Go Go.RowKit
def uQ:List (List UInt8):=[[48],[49],[50],[51],[52],[53],[54],[55]]
theorem LN (s:ByteArray) (hs:s.size≤100000) (w:World) (hl:bu w):Calls Tryz.prog 125 #[.string s,.string ⟨#[48,32,49,32,50,32,51,32,52,32,53,32,54,32,55]⟩] w fun e w'=>e=.returned (.bool (uQ.contains s.data.toList))∧Below w.heap.size w w':=by
 have:=kG s ⟨#[48,32,49,32,50,32,51,32,52,32,53,32,54,32,55]⟩ hs ay w hl
 rwa [qT (W:=uQ) cZ cZ] at this
def mF:List (List UInt8):=[[116,114,117,101],[102,97,108,115,101]]
theorem LO (s:ByteArray) (hs:s.size≤100000) (w:World) (hl:bu w):Calls Tryz.prog 125 #[.string s,.string ⟨#[116,114,117,101,32,102,97,108,115,101]⟩] w fun e w'=>e=.returned (.bool (mF.contains s.data.toList))∧Below w.heap.size w w':=by
 have:=kG s ⟨#[116,114,117,101,32,102,97,108,115,101]⟩ hs ay w hl
 rwa [qT (W:=mF) cZ cZ] at this
def eG:List (List UInt8):=[[97,110,121],[110,105,108],[98,111,111,108],[105,110,116],[115,116,114,105,110,103],[116,97,98,108,101],[116,104,114,101,97,100]]
theorem Iy (s:ByteArray) (hs:s.size≤100000) (w:World) (hl:bu w):Calls Tryz.prog 125 #[.string s,.string ⟨#[97,110,121,32,110,105,108,32,98,111,111,108,32,105,110,116,32,115,116,114,105,110,103,32,116,97,98,108,101,32,116,104,114,101,97,100]⟩] w fun e w'=>e=.returned (.bool (eG.contains s.data.toList))∧Below w.heap.size w w':=by
 have:=kG s ⟨#[97,110,121,32,110,105,108,32,98,111,111,108,32,105,110,116,32,115,116,114,105,110,103,32,116,97,98,108,101,32,116,104,114,101,97,100]⟩ hs ay w hl
 rwa [qT (W:=eG) cZ cZ] at this
def JQ:List (List UInt8):=[[45],[110,111,116],[35]]
theorem Yc (s:ByteArray) (hs:s.size≤100000) (w:World) (hl:bu w):Calls Tryz.prog 125 #[.string s,.string ⟨#[45,32,110,111,116,32,35]⟩] w fun e w'=>e=.returned (.bool (JQ.contains s.data.toList))∧Below w.heap.size w w':=by
 have:=kG s ⟨#[45,32,110,111,116,32,35]⟩ hs ay w hl
 rwa [qT (W:=JQ) cZ cZ] at this
def jC:List (List UInt8):=[[43],[45],[42],[47,47],[37],[46,46],[61,61],[126,61],[60],[60,61],[62],[62,61]]
theorem Qz (s:ByteArray) (hs:s.size≤100000) (w:World) (hl:bu w):Calls Tryz.prog 125 #[.string s,.string ⟨#[43,32,45,32,42,32,47,47,32,37,32,46,46,32,61,61,32,126,61,32,60,32,60,61,32,62,32,62,61]⟩] w fun e w'=>e=.returned (.bool (jC.contains s.data.toList))∧Below w.heap.size w w':=by
 have:=kG s ⟨#[43,32,45,32,42,32,47,47,32,37,32,46,46,32,61,61,32,126,61,32,60,32,60,61,32,62,32,62,61]⟩ hs ay w hl
 rwa [qT (W:=jC) cZ cZ] at this
def Dq:List (List UInt8):=[[114,101,97,100],[119,114,105,116,101]]
theorem XF (s:ByteArray) (hs:s.size≤100000) (w:World) (hl:bu w):Calls Tryz.prog 125 #[.string s,.string ⟨#[114,101,97,100,32,119,114,105,116,101]⟩] w fun e w'=>e=.returned (.bool (Dq.contains s.data.toList))∧Below w.heap.size w w':=by
 have:=kG s ⟨#[114,101,97,100,32,119,114,105,116,101]⟩ hs ay w hl
 rwa [qT (W:=Dq) cZ cZ] at this
theorem rU (s:ByteArray) (hs:s.size≤100000) (w:World) (hl:bu w):Calls Tryz.prog 130 #[.string s] w fun e w'=>e=.returned (.bool (uQ.contains s.data.toList))∧Below w.heap.size w w':=by
 have h:=LN s hs w hl;generalize uQ.contains s.data.toList=x at*;have H:=hid h;clear hl h;go_enter Tryz.func130,Tryz.ntmps130;go_wp2_with (go_at_call 125;((with_reducible refine H.out.mono ?_));rintro e w' ⟨rfl,hb⟩;obtain⟨g,rfl⟩:=aA hb;clear hb);go_ret;exact⟨rfl,bG (Below.refl _ _) _⟩
def dI (l:List UInt8):Bool:=match l with
 |[b]=>Nat.ble 48 b.toNat && Nat.ble b.toNat 55
 |_=>false
theorem Br (l:List UInt8):uQ.contains l=dI l:=by
 match l with
 |[]=>rfl
 |[b]=>
  have h:((List.range 256).all fun n=>decide (uQ.contains [n.toUInt8]=dI [n.toUInt8]))=true:=cZ;have h2:=of_decide_eq_true (List.all_eq_true.1 h b.toNat (List.mem_range.2 b.toNat_lt));simpa using h2
 |a::b::l=>simp [uQ,dI]
theorem LP:((List.range 256).all fun c=>nH 72 [str [c.toUInt8]] (.bool (dI [c.toUInt8])))=true:=by kernel_rfl
theorem LQ (s:ByteArray) (hs:((s.size:Int)==1)=false) (w:World):Calls Tryz.prog 72 #[.string s] w fun e w'=>e=.returned (.bool false)∧Below w.heap.size w w':=by
 go_enter Tryz.func72,Tryz.ntmps72;exact uF
theorem xL (s:ByteArray) (w:World):Calls Tryz.prog 72 #[.string s] w fun e w'=>e=.returned (.bool (dI s.data.toList))∧Below w.heap.size w w':=by
 have dW:s.data.toList.length=s.size:=ai;by_cases h1:s.size=1
 ·obtain⟨b,hb⟩:∃b,s.data.toList=[b]:=by
   match h:s.data.toList with
   |[]=>rw [h] at dW;simp at dW;omega
   |[b]=>exact⟨b,rfl⟩
   |a::b::l=>rw [h] at dW;simp at dW;omega
  have e:s=⟨[b].toArray⟩:=by rw [←hb]
  have:=zO LP b.toNat b.toNat_lt w;have e2:b.toNat.toUInt8=b:=ai;rw [e2] at this;rw [e];exact this
 ·have h2:dI s.data.toList=false:=by
   unfold dI;split
   ·rename_i b h;rw [h] at dW;simp at dW;omega
   ·rfl
  rw [h2];refine LQ s ?_ w;cases e:((s.size:Int)==1) with
  |false=>rfl
  |true=>have:=eq_of_beq e;omega
theorem LS:(eG.all fun l=>nH 76 [str l] (.bool true))=true:=by kernel_rfl
theorem mG {W:List (List UInt8)} {l m:List UInt8} (h:l ∉ W) (hm:m∈W):(l==m)=false:=by
 cases e:l==m with
 |false=>rfl
 |true=>exact absurd (eq_of_beq e ▸ hm) h
theorem QA (s:ByteArray) (h:s.data.toList ∉ eG) (w:World):Calls Tryz.prog 76 #[.string s] w fun e w'=>e=.returned (.bool false)∧Below w.heap.size w w':=by
 have h0:(s.toList==[97,110,121])=false:=by rw [ByteArray.toList_eq];exact mG h ay
 have h1:(s.toList==[110,105,108])=false:=by rw [ByteArray.toList_eq];exact mG h ay
 have h2:(s.toList==[98,111,111,108])=false:=by rw [ByteArray.toList_eq];exact mG h ay
 have h3:(s.toList==[105,110,116])=false:=by rw [ByteArray.toList_eq];exact mG h ay
 have h4:(s.toList==[115,116,114,105,110,103])=false:=by rw [ByteArray.toList_eq];exact mG h ay
 have h5:(s.toList==[116,97,98,108,101])=false:=by rw [ByteArray.toList_eq];exact mG h ay
 have h6:(s.toList==[116,104,114,101,97,100])=false:=by rw [ByteArray.toList_eq];exact mG h ay
 clear h;go_enter Tryz.func76,Tryz.ntmps76;exact uF
theorem LU (s:ByteArray) (w:World):Calls Tryz.prog 76 #[.string s] w fun e w'=>e=.returned (.bool (eG.contains s.data.toList))∧Below w.heap.size w w':=by
 by_cases h:s.data.toList∈eG
 ·have:=iN (List.all_eq_true.1 LS _ h) w;rw [show eG.contains s.data.toList=true by simpa using h];have e:s=⟨s.data.toList.toArray⟩:=ai;rw [e];exact this
 ·rw [show eG.contains s.data.toList=false by simpa using h];exact QA s h w
end Go.Proofs.YtbgjanmheagilaaGreatDoor
/- A part of the proof. Conditions: none. -/
set_option maxRecDepth 100000
set_option maxHeartbeats 8000000
namespace Go.Proofs.YtbgjanmheagilaaGreatDoor
open Go Go.RowKit
def sW (l:List UInt8):Bool:=match dY l with
 |none=>false
 |some n=>decide (Lib.itoa (wrap64 n)=l)
def jK (l:List UInt8):Bool:=match l with
 |c::32::m=>dI [c] && cI m
 |_=>false
def mJ (k:Nat) (l:List UInt8) (nk:Nat):Bool:=
 if k=4∨k=5∨k=17∨k=23 then cr l && decide (bn l<0) else if k=18∨k=25∨k=33 then cr l else if k=16 then true else if k=14 then mF.contains l
 else if k=15 then sW l else if k=31 then eG.contains l else if k=28 then JQ.contains l else if k=27 then jC.contains l else if k=21 then decide (bn l=(nk:Int))
 else if k=36 then cI l else if k=2 then jK l else l.isEmpty
def aK (f K:Nat):Prop:=∀(s:ByteArray),s.size≤100000→∀(kp:Option Addr) (nk kc:Nat) (aT:Int) (w:World),bu w→Calls Tryz.prog f #[.agg #[.int .i64 K,.string s,.slice kp nk kc,.int .i64 aT]] w fun e w'=>e=.returned (.bool (mJ K s.data.toList nk))∧Below w.heap.size w w'
theorem Yr:aK 93 1:=by
 exact eV
theorem Ys:aK 93 3:=by
 exact eV
theorem Yt:aK 93 4:=by
 exact Sn
theorem Yu:aK 93 5:=by
 exact Sn
theorem Yv:aK 93 6:=by
 exact eV
theorem Yw:aK 93 7:=by
 exact eV
theorem Yx:aK 93 8:=by
 exact eV
theorem Yy:aK 93 9:=by
 exact eV
theorem QM:aK 93 10:=by
 exact eV
theorem QN:aK 93 11:=by
 exact eV
theorem QO:aK 93 12:=by
 exact eV
theorem QS:aK 93 13:=by
 exact eV
theorem QT:aK 93 14:=by
 intro s hs kp nk kc aT w hl;show Calls _ _ _ _ fun e w'=>e=.returned (.bool (mF.contains s.data.toList))∧Below w.heap.size w w'
 have H1:Hid (∀w',Below w.heap.size w w'→Calls Tryz.prog 125 #[.string s,.string ⟨#[116,114,117,101,32,102,97,108,115,101]⟩] w' fun e w2=>e=.returned (.bool (mF.contains s.data.toList))∧Below w'.heap.size w' w2):=hid fun w' h=>LO s hs w' (hl.later h)
 clear hl;generalize mF.contains s.data.toList=x at*;go_enter Tryz.func93,Tryz.ntmps93;go_wp2_with (first
  |(go_at_call 125;((with_reducible refine(H1.out _ ?_).mono ?_));rotate_left;rintro e w' ⟨rfl,hb⟩;obtain⟨g1,rfl⟩:=aA hb;clear hb))
 all_goals first
  |(go_ret;exact⟨rfl,bP⟩)
  |exact by repeat (first|exact Below.refl _ _|refine bG ?_ _|refine bI ?_ _ _|refine bA ?_ _|refine bD ?_|refine bN ?_ _)
theorem QU:aK 93 16:=by
 intro s hs kp nk kc aT w hl;show Calls _ _ _ _ fun e w'=>e=.returned (.bool true)∧Below w.heap.size w w'
 clear hl;go_enter Tryz.func93,Tryz.ntmps93;exact EW
theorem QV:aK 93 17:=by
 exact Sn
theorem QW:aK 93 18:=by
 exact Nq
theorem QX:aK 93 19:=by
 exact eV
theorem QY:aK 93 20:=by
 exact eV
theorem QZ:aK 93 21:=by
 intro s hs kp nk kc aT w hl;show Calls _ _ _ _ fun e w'=>e=.returned (.bool (decide (bn s.data.toList=(nk:Int))))∧Below w.heap.size w w'
 have H2:Hid (∀w',Calls Tryz.prog 124 #[.string s] w' fun e w2=>e=.returned (.int .i64 (bn s.data.toList))∧Below w'.heap.size w' w2):=hid fun w'=>by
  have:=vB s w'
  rwa [ByteArray.toList_eq] at this
 clear hl;generalize bn s.data.toList=n at*;go_enter Tryz.func93,Tryz.ntmps93;go_wp2_with fail;go_region_held3 (fun w'=>w'.cell? ⟨w.heap.size,1,none⟩=some (.string s)∧w'.cell? ⟨w.heap.size,2,none⟩=some (.slice kp nk kc)) (simp [go_sem])
  (first|(go_at_call 124;((with_reducible refine(H2.out _).mono ?_));rintro e w' ⟨rfl,hb⟩;obtain⟨g2,rfl⟩:=aA hb;clear hb))
 exact Nz
theorem Q0:aK 93 22:=by
 exact eV
theorem Q2:aK 93 23:=by
 exact Sn
theorem Q3:aK 93 24:=by
 exact eV
theorem Q4:aK 93 25:=by
 exact Nq
theorem Q5:aK 93 26:=by
 exact eV
theorem Q6:aK 93 27:=by
 intro s hs kp nk kc aT w hl;show Calls _ _ _ _ fun e w'=>e=.returned (.bool (jC.contains s.data.toList))∧Below w.heap.size w w'
 have H1:Hid (∀w',Below w.heap.size w w'→Calls Tryz.prog 125 #[.string s,.string ⟨#[43,32,45,32,42,32,47,47,32,37,32,46,46,32,61,61,32,126,61,32,60,32,60,61,32,62,32,62,61]⟩] w' fun e w2=>e=.returned (.bool (jC.contains s.data.toList))∧Below w'.heap.size w' w2):=hid fun w' h=>Qz s hs w' (hl.later h)
 clear hl;generalize jC.contains s.data.toList=x at*;go_enter Tryz.func93,Tryz.ntmps93;go_wp2_with (first
  |(go_at_call 125;((with_reducible refine(H1.out _ ?_).mono ?_));rotate_left;rintro e w' ⟨rfl,hb⟩;obtain⟨g1,rfl⟩:=aA hb;clear hb))
 all_goals first
  |(go_ret;exact⟨rfl,bP⟩)
  |exact by repeat (first|exact Below.refl _ _|refine bG ?_ _|refine bI ?_ _ _|refine bA ?_ _|refine bD ?_|refine bN ?_ _)
theorem Q7:aK 93 28:=by
 intro s hs kp nk kc aT w hl;show Calls _ _ _ _ fun e w'=>e=.returned (.bool (JQ.contains s.data.toList))∧Below w.heap.size w w'
 have H1:Hid (∀w',Below w.heap.size w w'→Calls Tryz.prog 125 #[.string s,.string ⟨#[45,32,110,111,116,32,35]⟩] w' fun e w2=>e=.returned (.bool (JQ.contains s.data.toList))∧Below w'.heap.size w' w2):=hid fun w' h=>Yc s hs w' (hl.later h)
 clear hl;generalize JQ.contains s.data.toList=x at*;go_enter Tryz.func93,Tryz.ntmps93;go_wp2_with (first
  |(go_at_call 125;((with_reducible refine(H1.out _ ?_).mono ?_));rotate_left;rintro e w' ⟨rfl,hb⟩;obtain⟨g1,rfl⟩:=aA hb;clear hb))
 all_goals first
  |(go_ret;exact⟨rfl,bP⟩)
  |exact by repeat (first|exact Below.refl _ _|refine bG ?_ _|refine bI ?_ _ _|refine bA ?_ _|refine bD ?_|refine bN ?_ _)
theorem Q8:aK 93 29:=by
 exact eV
theorem Q9:aK 93 30:=by
 exact eV
theorem Ra:aK 93 31:=by
 intro s hs kp nk kc aT w hl;show Calls _ _ _ _ fun e w'=>e=.returned (.bool (eG.contains s.data.toList))∧Below w.heap.size w w'
 have H1:Hid (∀w',Below w.heap.size w w'→Calls Tryz.prog 125 #[.string s,.string ⟨#[97,110,121,32,110,105,108,32,98,111,111,108,32,105,110,116,32,115,116,114,105,110,103,32,116,97,98,108,101,32,116,104,114,101,97,100]⟩] w' fun e w2=>e=.returned (.bool (eG.contains s.data.toList))∧Below w'.heap.size w' w2):=hid fun w' h=>Iy s hs w' (hl.later h)
 clear hl;generalize eG.contains s.data.toList=x at*;go_enter Tryz.func93,Tryz.ntmps93;go_wp2_with (first
  |(go_at_call 125;((with_reducible refine(H1.out _ ?_).mono ?_));rotate_left;rintro e w' ⟨rfl,hb⟩;obtain⟨g1,rfl⟩:=aA hb;clear hb))
 all_goals first
  |(go_ret;exact⟨rfl,bP⟩)
  |exact by repeat (first|exact Below.refl _ _|refine bG ?_ _|refine bI ?_ _ _|refine bA ?_ _|refine bD ?_|refine bN ?_ _)
theorem Rb:aK 93 32:=by
 exact eV
theorem Rc:aK 93 33:=by
 exact Nq
theorem Re:aK 93 34:=by
 exact eV
theorem Rh:aK 93 35:=by
 exact eV
theorem Ri:aK 93 36:=by
 intro s hs kp nk kc aT w hl;show Calls _ _ _ _ fun e w'=>e=.returned (.bool (cI s.data.toList))∧Below w.heap.size w w'
 have H1:Hid (∀w',Below w.heap.size w w'→Calls Tryz.prog 128 #[.string s] w' fun e w2=>e=.returned (.bool (cI s.data.toList))∧Below w'.heap.size w' w2):=hid fun w' h=>A2 s hs w' (hl.later h)
 clear hl;generalize cI s.data.toList=x at*;go_enter Tryz.func93,Tryz.ntmps93;go_wp2_with (first
  |(go_at_call 128;((with_reducible refine(H1.out _ ?_).mono ?_));rotate_left;rintro e w' ⟨rfl,hb⟩;obtain⟨g1,rfl⟩:=aA hb;clear hb))
 all_goals first
  |(go_ret;exact⟨rfl,bP⟩)
  |exact by repeat (first|exact Below.refl _ _|refine bG ?_ _|refine bI ?_ _ _|refine bA ?_ _|refine bD ?_|refine bN ?_ _)
end Go.Proofs.YtbgjanmheagilaaGreatDoor
/- A part of the proof. Conditions: none. -/
set_option maxRecDepth 100000
set_option maxHeartbeats 8000000
namespace Go.Proofs.YtbgjanmheagilaaGreatDoor
open Go Go.RowKit Go.Nodes
def ag (ns:List Nd) (n:Int):Int:=match ns[n.toNat]? with
 |some x=>x.kind
 |none=>0
def aQ (ns:List Nd) (n:Int):List UInt8:=match ns[n.toNat]? with
 |some x=>x.text.data.toList
 |none=>[]
def lN (ns:List Nd) (n:Int):Int:=match ns[n.toNat]? with
 |some x=>x.kids.getD 0 0
 |none=>0
def pS (ns:List Nd):Nat→Int→Int
 |0,n=>ag ns n
 |f+1,n=>if ag ns n=18∨ag ns n=19∨ag ns n=20 then pS ns f (lN ns n) else ag ns n
def fO (ns:List Nd) (n:Int):Int:=pS ns (n.toNat+1) n
def fZ (ns:List Nd) (x:Nd):Bool:=
 if x.kind=3 then x.kids.dropLast.all (fun k=>decide (ag ns k≠10∧ag ns k≠11))
 else if x.kind=6∨x.kind=7 then decide (fO ns (x.kids.getD 0 0)=17∨fO ns (x.kids.getD 0 0)=21)
 else if x.kind=21 then(if Dq.contains x.text.data.toList then decide (ag ns (x.kids.getD 0 0)=15) && dI (aQ ns (x.kids.getD 0 0)) else true)
 else if x.kind=32 then decide ((x.kids.map (aQ ns)).Nodup)
 else if x.kind=1 then decide ((x.kids.dropLast.map (fun k=>(aQ ns k).take 1)).Nodup)
 else true
def aO (ns:List Nd) (l:List Int):List Nat:=l.map fun k=>(ag ns k).toNat
structure B2 (ns:List Nd) (i:Nat) (x:Nd):Prop where
 k1:1≤x.kind
 JJ:x.kind≤36
 place:0≤x.place
 kids:∀k∈x.kids,0≤k∧k<i
 fits:bE (aI x.kind.toNat) (aO ns x.kids)=true
 text:mJ x.kind.toNat x.text.data.toList x.kids.length=true
 more:fZ ns x=true
def iZ (ns:List Nd) (n:Nat):Prop:=∀(i:Nat) (x:Nd),i<n→ns[i]?=some x→B2 ns i x
theorem gF {f:List UInt8} {ks:List Nat} (h:bE f ks=true) (hd:f≠[46]):f.length - 2*f.count 42≤ks.length:=by
 unfold bE at h;rw [if_neg hd] at h;split at h
 ·cases h
 ·omega
theorem pX {ns:List Nd} {x:Nd} (hf:bE (aI x.kind.toNat) (aO ns x.kids)=true) (hk:x.kind=1∨x.kind=6∨x.kind=7∨x.kind=18∨x.kind=19∨x.kind=20):0<x.kids.length:=by
 have hl:(aO ns x.kids).length=x.kids.length:=by simp [aO]
 rw [←hl];rcases hk with h|h|h|h|h|h
 all_goals
  rw [h] at hf;have:=gF hf ay;exact Nat.lt_of_lt_of_le ay this
theorem aR {ns:List Nd} {i:Nat} {x:Nd} (h:ns[i]?=some x):ag ns (i:Int)=x.kind:=by
 unfold ag;rw [Int.toNat_natCast,h]
theorem L6 {ns:List Nd} {i:Nat} {x:Nd} (h:ns[i]?=some x):lN ns (i:Int)=x.kids.getD 0 0:=by
 unfold lN;rw [Int.toNat_natCast,h]
theorem fT {ns:List Nd} {i:Nat} {x:Nd} (h:ns[i]?=some x):aQ ns (i:Int)=x.text.data.toList:=by
 unfold aQ;rw [Int.toNat_natCast,h]
theorem aY {w:World} {p:Option Addr} {ns:List Nd} (h:aj w p ns) {i:Nat} (hi:i<ns.length):∃b o,p=some ⟨b,o,none⟩∧b<w.heap.size∧ns[i]?=some ns[i]∧ns[i].fine w∧
  w.cell? ⟨b,o+i*4,none⟩=some (.int .i64 ns[i].kind)∧w.cell? ⟨b,o+i*4+1,none⟩=some (.string ns[i].text)∧
  w.cell? ⟨b,o+i*4+2,none⟩=some (.slice ns[i].kp ns[i].kids.length ns[i].aC)∧w.cell? ⟨b,o+i*4+3,none⟩=some (.int .i64 ns[i].place):=by
 rcases h.2.2 with h0|⟨b,o,hp,hb,hc⟩
 ·subst h0;simp at hi
 ·exact⟨b,o,hp,hb,List.getElem?_eq_getElem hi,h.2.1 _ (List.getElem_mem hi),(hc i hi).1,(hc i hi).2.1,(hc i hi).2.2.1,(hc i hi).2.2.2⟩
theorem cF {w:World} {x:Nd} (h:x.fine w) {j:Nat} (hj:j<x.kids.length):∃b o,x.kp=some ⟨b,o,none⟩∧b<w.heap.size∧w.cell? ⟨b,o+j,none⟩=some (.int .i64 (x.kids.getD j 0)):=by
 rcases h.2.2.2.2.2 with h0|⟨b,o,hp,hb,hc⟩
 ·rw [h0] at hj;simp at hj
 ·refine⟨b,o,hp,hb, ?_⟩;rw [hc j hj];simp [List.getD,List.getElem?_eq_getElem hj]
end Go.Proofs.YtbgjanmheagilaaGreatDoor
/- A part of the proof. Conditions: none. -/
set_option maxRecDepth 100000
set_option maxHeartbeats 8000000
namespace Go.Proofs.YtbgjanmheagilaaGreatDoor
open Go Go.RowKit Go.Nodes
theorem LC (w:World) (p:Option Addr) (c:Nat) (ns:List Nd) (hn:ns.length≤5000) (ha:aj w p ns) (N:Nat) (hN:N≤ns.length) (hv:iZ ns N) (n0:Nat) (AY:n0<N):
  Calls Tryz.prog 77 #[.slice p ns.length c,.int .i64 (n0:Int)] w fun e w'=>e=.returned (.int .i64 (fO ns n0))∧Below w.heap.size w w':=by
 have Ha:=hid ha;have Hv:=hid hv;have hN2:(N:Int)≤(ns.length:Int):=aa;have hL:(ns.length:Int)≤5000:=aa;obtain⟨L,zN⟩:∃L,L=ns.length:=⟨_,rfl⟩;rw [←zN] at hN2 hL ⊢;have HL:=hid zN;clear ha hv zN;go_enter Tryz.func77,Tryz.ntmps77;go_wp2;go_loop [1] (fun nv=>∃k:Nat,nv=.int .i64 k∧k<N∧Hid (∃f,k<f∧pS ns f k=fO ns n0)) (fun nv=>(intOf nv).toNat)
 case atStart=>exact⟨n0,rfl,AY,n0+1,by omega,by unfold fO;rw [Int.toNat_natCast]⟩
 case round=>
  have Qx:=trivial;exact acA
end Go.Proofs.YtbgjanmheagilaaGreatDoor
/- A part of the proof. Conditions: none. -/
set_option maxRecDepth 100000
set_option maxHeartbeats 8000000
namespace Go.Proofs.YtbgjanmheagilaaGreatDoor
open Go Go.RowKit Go.Nodes
theorem bK {a b:Int} (h:a≠b):(a==b)=false:=by
 cases e:(a==b) with
 |false=>rfl
 |true=>exact absurd (eq_of_beq e) h
theorem CZ (w:World) (p:Option Addr) (c:Nat) (ns:List Nd) (hL:(ns.length:Int)≤5000) (ha:aj w p ns) (n:Nat) (hn:n<ns.length) (hk:ns[n].kind≠1∧ns[n].kind≠3∧ns[n].kind≠6∧ns[n].kind≠7∧ns[n].kind≠21∧ns[n].kind≠32):
  Calls Tryz.prog 44 #[.slice p ns.length c,.int .i64 (n:Int)] w fun e w'=>e=.returned (.bool true)∧Below w.heap.size w w':=by
 obtain⟨b,o,rfl,hb,hx,hf,c0,c1,c2,c3⟩:=aY ha hn;have n0:(0:Int)≤(n:Int):=aa;have n1:(n:Int)<(ns.length:Int):=aa;have e1:=bK hk.1;have e2:=bK hk.2.1;have e3:=bK hk.2.2.1;have e4:=bK hk.2.2.2.1;have e5:=bK hk.2.2.2.2.1;have e6:=bK hk.2.2.2.2.2;clear hk ha hx hf;generalize ns[n]=x at*;generalize ns.length=L at*;generalize x.kind=kx at*;go_enter Tryz.func44,Tryz.ntmps44;exact LD
theorem Fp (w:World) (p:Option Addr) (c:Nat) (ns:List Nd) (hL:(ns.length:Int)≤5000) (ha:aj w p ns) (n:Nat) (hn:n<ns.length) (hv:iZ ns n) (hk:ns[n].kind=6∨ns[n].kind=7) (fS:0<ns[n].kids.length) (dR:∀k∈ns[n].kids,0≤k∧k<n):
  Calls Tryz.prog 44 #[.slice p ns.length c,.int .i64 (n:Int)] w fun e w'=>e=.returned (.bool (decide (fO ns (ns[n].kids.getD 0 0)=17∨fO ns (ns[n].kids.getD 0 0)=21)))∧Below w.heap.size w w':=by
 obtain⟨b,o,hp,hb,hx,hf,c0,c1,c2,c3⟩:=aY ha hn;have n0:(0:Int)≤(n:Int):=aa;have n1:(n:Int)<(ns.length:Int):=aa;obtain⟨bk,ok,iW,dz,dy⟩:=cF hf fS;have eC:=dR (ns[n].kids.getD 0 0) KA;obtain⟨z,hz⟩:∃z:Nat,ns[n].kids.getD 0 0=(z:Int):=⟨(ns[n].kids.getD 0 0).toNat,by omega⟩;rw [hz] at dy eC ⊢;rw [Nat.add_zero] at dy;have PC:Hid (∀w',Below w.heap.size w w'→Calls Tryz.prog 77 #[.slice p ns.length c,.int .i64 (z:Int)] w' fun e w2=>e=.returned (.int .i64 (fO ns z))∧Below w'.heap.size w' w2):=hid fun w' h=>LC w' p c ns aa (eP h ha) n aa hv z aa
 subst hp;obtain⟨q,hq⟩:∃q,q=ns[n].kids.length:=⟨_,rfl⟩;rw [←hq] at c2 fS;rw [iW] at c2;have q1:(0:Int)<(q:Int):=aa;clear ha hx hf dR iW hz hq hv;generalize ns[n]=x at*;generalize fO ns (z:Int)=r at*;generalize ns.length=L at*;generalize x.kind=kx at*;by_cases ZI:r=17
 ·subst ZI;rcases hk with rfl|rfl
  all_goals
   go_enter Tryz.func44,Tryz.ntmps44;go_wp2_with (go_at_call 77;((with_reducible refine(PC.out _ ?_).mono ?_));rotate_left;rintro e w' ⟨rfl,hb⟩;obtain⟨g1,rfl⟩:=aA hb;clear hb)
   all_goals first
    |(go_ret;exact⟨by simp,cH⟩)
    |(repeat (first|exact Below.refl _ _|refine bG ?_ _|refine bI ?_ _ _|refine bA ?_ _))
 ·have agU:=bK ZI;by_cases ZJ:r=21
  ·subst ZJ;rcases hk with rfl|rfl
   all_goals
    go_enter Tryz.func44,Tryz.ntmps44;go_wp2_with (go_at_call 77;((with_reducible refine(PC.out _ ?_).mono ?_));rotate_left;rintro e w' ⟨rfl,hb⟩;obtain⟨g1,rfl⟩:=aA hb;clear hb)
    all_goals first
     |(go_ret;exact⟨by simp,cH⟩)
     |(repeat (first|exact Below.refl _ _|refine bG ?_ _|refine bI ?_ _ _|refine bA ?_ _))
  ·have agV:=bK ZJ;have hd:decide (r=17∨r=21)=false:=decide_eq_false aa;rw [hd];clear hd ZI ZJ;rcases hk with rfl|rfl
   all_goals
    go_enter Tryz.func44,Tryz.ntmps44;go_wp2_with (go_at_call 77;((with_reducible refine(PC.out _ ?_).mono ?_));rotate_left;rintro e w' ⟨rfl,hb⟩;obtain⟨g1,rfl⟩:=aA hb;clear hb)
    all_goals first
     |(go_ret;exact⟨rfl,cH⟩)
     |(repeat (first|exact Below.refl _ _|refine bG ?_ _|refine bI ?_ _ _|refine bA ?_ _))
end Go.Proofs.YtbgjanmheagilaaGreatDoor
/- A part of the proof. Conditions: none. -/
set_option maxRecDepth 100000
set_option maxHeartbeats 8000000
namespace Go.Proofs.YtbgjanmheagilaaGreatDoor
open Go Go.RowKit Go.Nodes
def cy (ns:List Nd) (k:Int):Bool:=decide (ag ns k≠10∧ag ns k≠11)
theorem sD {α:Type} (l:List α) (j:Nat) (hj:j+1<l.length):l.dropLast.drop j=l[j]::l.dropLast.drop (j+1):=by
 rw [List.drop_eq_getElem_cons aV];simp
theorem dV {α:Type} (l:List α) (j:Nat) (hj:l.length≤j+1):l.dropLast.drop j=[]:=List.drop_eq_nil_of_le aV
theorem CX (w:World) (p:Option Addr) (c:Nat) (ns:List Nd) (hL:(ns.length:Int)≤5000) (ha:aj w p ns) (n:Nat) (hn:n<ns.length) (hk:ns[n].kind=3) (eM:(ns[n].kids.length:Int)≤20000) (dR:∀k∈ns[n].kids,0≤k∧k<n):
  Calls Tryz.prog 44 #[.slice p ns.length c,.int .i64 (n:Int)] w fun e w'=>e=.returned (.bool (ns[n].kids.dropLast.all (cy ns)))∧Below w.heap.size w w':=by
 have Ou:=trivial;exact W4
end Go.Proofs.YtbgjanmheagilaaGreatDoor
/- A part of the proof. Conditions: none. -/
set_option maxRecDepth 100000
set_option maxHeartbeats 8000000
namespace Go.Proofs.YtbgjanmheagilaaGreatDoor
open Go Go.RowKit Go.Nodes
def kf (ns:List Nd) (x:Nd):Bool:=if Dq.contains x.text.data.toList then decide (ag ns (x.kids.getD 0 0)=15) && dI (aQ ns (x.kids.getD 0 0)) else true
theorem wS (w:World) (p:Option Addr) (c:Nat) (ns:List Nd) (hL:(ns.length:Int)≤5000) (ha:aj w p ns) (n:Nat) (hn:n<ns.length) (hk:ns[n].kind=21) (eM:ns[n].kids.length≤20000) (dR:∀k∈ns[n].kids,0≤k∧k<n)
  (cD:Dq.contains ns[n].text.data.toList=true→0<ns[n].kids.length):
  Calls Tryz.prog 44 #[.slice p ns.length c,.int .i64 (n:Int)] w fun e w'=>e=.returned (.bool (kf ns ns[n]))∧Below w.heap.size w w':=by
 obtain⟨b,o,hp,hb,hx,hf,c0,c1,c2,c3⟩:=aY ha hn;subst hp;have n0:(0:Int)≤(n:Int):=aa;have n1:(n:Int)<(ns.length:Int):=aa;rw [hk] at c0;by_cases AR:Dq.contains ns[n].text.data.toList=true
 ·have fS:=cD AR;obtain⟨bk,ok,iW,dz,dy⟩:=cF hf fS;have eC:=dR (ns[n].kids.getD 0 0) KA;have hB:kf ns ns[n]=(decide (ag ns (ns[n].kids.getD 0 0)=15) && dI (aQ ns (ns[n].kids.getD 0 0))):=by unfold kf;rw [if_pos AR]
  obtain⟨z,hz⟩:∃z:Nat,ns[n].kids.getD 0 0=(z:Int):=⟨(ns[n].kids.getD 0 0).toNat,by omega⟩;rw [hz] at dy eC hB;rw [Nat.add_zero] at dy;have hzl:z<ns.length:=aa;obtain⟨b2,o2,zM,hb2,hx2,hf2,d0,d1,d2,d3⟩:=aY ha hzl;cases zM;rw [aR hx2,fT hx2] at hB;have Bu:Hid (∀w',Calls Tryz.prog 72 #[.string ns[z].text] w' fun e w2=>e=.returned (.bool (dI ns[z].text.data.toList))∧Below w'.heap.size w' w2):=hid fun w'=>xL _ w'
  have Ph:(ns[n].text.toList==[114,101,97,100])=true∨((ns[n].text.toList==[114,101,97,100])=false∧(ns[n].text.toList==[119,114,105,116,101])=true):=by
   rw [ByteArray.toList_eq];simp only [Dq,List.contains_cons,List.contains_nil,Bool.or_false,Bool.or_eq_true] at AR;cases e:(ns[n].text.data.toList==[114,101,97,100]) with
   |true=>exact .inl rfl
   |false=>rw [e] at AR;exact .inr ⟨rfl,by simpa using AR⟩
  have HB:=hid hB;have z0:(0:Int)≤(z:Int):=aa;have z1:(z:Int)<(ns.length:Int):=aa;obtain⟨q,hq⟩:∃q,q=ns[n].kids.length:=⟨_,rfl⟩;rw [←hq] at c2 fS;rw [iW] at c2;have q1:(0:Int)<(q:Int):=aa;clear ha hx hf dR iW hz hq cD hx2 hf2 AR hB hk eM;generalize kf ns ns[n]=R at*;generalize ns[n]=x at*;generalize ns[z]=y at*;generalize ns.length=L at*;generalize y.kind=ky at*;generalize dI y.text.data.toList=ch at*;by_cases HZ:ky=15
  ·subst HZ;have HR:Hid (R=ch):=hid (by rw [HB.out];rfl);clear HB;rcases Ph with uE|⟨uE,hw2⟩
   all_goals
    go_enter Tryz.func44,Tryz.ntmps44;go_wp2_with (go_at_call 72;((with_reducible refine(Bu.out _).mono ?_));rintro e w' ⟨rfl,hb⟩;obtain⟨g1,rfl⟩:=aA hb;clear hb);go_ret;exact⟨by rw [HR.out];rfl,bP⟩
  ·have afx:=bK HZ;have HR:Hid (R=false):=hid (by rw [HB.out,decide_eq_false HZ];rfl);clear HB HZ;rcases Ph with uE|⟨uE,hw2⟩
   all_goals
    go_enter Tryz.func44,Tryz.ntmps44;go_wp2_with (go_at_call 72;((with_reducible refine(Bu.out _).mono ?_));rintro e w' ⟨rfl,hb⟩;obtain⟨g1,rfl⟩:=aA hb;clear hb);go_ret;exact⟨by rw [HR.out];rfl,bP⟩
 ·have hB:kf ns ns[n]=true:=by unfold kf;rw [if_neg AR]
  have uE:(ns[n].text.toList==[114,101,97,100])=false:=by
   rw [ByteArray.toList_eq];cases e:(ns[n].text.data.toList==[114,101,97,100]) with
   |false=>rfl
   |true=>exact absurd (by simp [Dq,eq_of_beq e]) AR
  have hw2:(ns[n].text.toList==[119,114,105,116,101])=false:=by
   rw [ByteArray.toList_eq];cases e:(ns[n].text.data.toList==[119,114,105,116,101]) with
   |false=>rfl
   |true=>exact absurd (by simp [Dq,eq_of_beq e]) AR
  rw [hB];clear hB AR ha hx hf dR cD hk eM;generalize ns[n]=x at*;generalize ns.length=L at*;go_enter Tryz.func44,Tryz.ntmps44;exact EW
end Go.Proofs.YtbgjanmheagilaaGreatDoor
/- A part of the proof. Conditions: none. -/
set_option maxRecDepth 100000
set_option maxHeartbeats 8000000
namespace Go.Proofs.YtbgjanmheagilaaGreatDoor
open Go Go.RowKit Go.Nodes
theorem CY (w:World) (p:Option Addr) (c:Nat) (ns:List Nd) (hL:(ns.length:Int)≤5000) (ha:aj w p ns) (n:Nat) (hn:n<ns.length) (hk:ns[n].kind=32) (eM:(ns[n].kids.length:Int)≤20000) (dR:∀k∈ns[n].kids,0≤k∧k<n) (bL:(ns[n].kids.length:Int)≤(ns[n].aC:Int)):
  Calls Tryz.prog 44 #[.slice p ns.length c,.int .i64 (n:Int)] w fun e w'=>e=.returned (.bool (decide ((ns[n].kids.map (aQ ns)).Nodup)))∧Below w.heap.size w w':=by
 have Ot:=trivial;exact W4
end Go.Proofs.YtbgjanmheagilaaGreatDoor
/- A part of the proof. Conditions: none. -/
set_option maxRecDepth 100000
set_option maxHeartbeats 8000000
namespace Go.Proofs.YtbgjanmheagilaaGreatDoor
open Go Go.RowKit Go.Nodes
theorem Mm {s t:ByteArray} (hs:0<s.size) (ht:0<t.size):((s[0].toNat:Int)==(t[0].toNat:Int))=decide (s.data.toList.take 1=t.data.toList.take 1):=by
 have e:∀(u:ByteArray) (h:0<u.size),u.data.toList.take 1=[u[0]]:=fun u h=>by
  have hl:0<u.data.toList.length:=kV;rw [List.take_one,List.head?_eq_getElem?,List.getElem?_eq_getElem hl];exact B5
 rw [e s hs,e t ht];cases h:((s[0].toNat:Int)==(t[0].toNat:Int)) with
 |true=>
  have:=eq_of_beq h;have h2:s[0]=t[0]:=UInt8.toNat_inj.1 aa;rw [h2,decide_eq_true rfl]
 |false=>
  rw [decide_eq_false];intro h2;rw [List.cons.inj h2|>.1] at h;simp at h
theorem wQ (w:World) (p:Option Addr) (c:Nat) (ns:List Nd) (hL:(ns.length:Int)≤5000) (ha:aj w p ns) (n:Nat) (hn:n<ns.length) (hk:ns[n].kind=1) (eM:(ns[n].kids.length:Int)≤20000) (dR:∀k∈ns[n].kids,0≤k∧k<n) (cD:0<ns[n].kids.length) (wL:∀k∈ns[n].kids.dropLast,0<(aQ ns k).length) (bL:(ns[n].kids.length:Int)≤(ns[n].aC:Int)):
  Calls Tryz.prog 44 #[.slice p ns.length c,.int .i64 (n:Int)] w fun e w'=>e=.returned (.bool (decide ((ns[n].kids.dropLast.map (fun k=>(aQ ns k).take 1)).Nodup)))∧Below w.heap.size w w':=by
 obtain⟨b,o,hp,hb,hx,hf,c0,c1,c2,c3⟩:=aY ha hn;subst hp;have n0:(0:Int)≤(n:Int):=aa;have n1:(n:Int)<(ns.length:Int):=aa;have qZ:=hid dR;have Htx:=hid wL;have Hf:=hid hf;have Ha:=hid ha;have hns:ns.length≤5000:=aa;obtain⟨L,zN⟩:∃L,L=ns.length:=⟨_,rfl⟩;rw [←zN] at hL n1 hns ⊢;rw [hk] at c0;have HL:=hid zN;clear hx hf dR ha hk zN wL;generalize ns[n]=x at*;obtain⟨q,hq⟩:∃q,q=x.kids.length:=⟨_,rfl⟩;rw [←hq] at c2 eM bL cD;obtain⟨r,hr⟩:∃r,q=r+1:=⟨q - 1,by omega⟩;have hr1:(q:Int) - 1=(r:Int):=aa;have hr2:(r:Int)≤(x.aC:Int):=aa;have hr3:(1:Int)≤(q:Int):=aa;have Hr:=hid hr;clear hr;have Hq:=hid hq;clear hq;go_enter Tryz.func44,Tryz.ntmps44;go_wp2;go_loopw [139] (fun iv wr=>∃(i:Nat) (g:eo),iv=.int .i64 i∧i≤r∧wr=grow (w.alloc (.cells #[Value.int IntKind.i64 1,Value.string x.text,Value.slice x.kp q x.aC,Value.int IntKind.i64 x.place] 30)) g∧Hid (((x.kids.take i).map (fun k=>(aQ ns k).take 1)).Nodup)) (fun iv _=>r - (intOf iv).toNat)
 case atStart=>exact⟨0,_,rfl,by omega,(cW _).symm,by simp [Hid]⟩
 case round=>
  obtain⟨i,g,rfl,hi,rfl,hR⟩:=hrel;by_cases hiq:i<r
  ·have lB:i<x.kids.length:=by have:=Hq.out;have:=Hr.out;omega
   obtain⟨bk,ok,iW,dz,dy⟩:=cF Hf.out lB;have jx:x.kids.getD i 0=x.kids[i]:=BQ;have eC:=qZ.out x.kids[i] (List.getElem_mem lB);rw [jx] at dy;obtain⟨z,hz⟩:∃z:Nat,x.kids[i]=(z:Int):=⟨(x.kids[i]).toNat,by omega⟩;rw [hz] at eC dy;have hzl:z<ns.length:=aa;obtain⟨b2,o2,zM,hb2,hx2,hf2,d0,d1,d2,d3⟩:=aY Ha.out hzl;cases zM;have hti:=fT hx2;have z0:(0:Int)≤(z:Int):=aa;have z1:(z:Int)<(L:Int):=dG;have i0:(0:Int)≤(i:Int):=aa;have i1:(i:Int)<(r:Int):=aa;have i2:(i:Int)≤(x.aC:Int):=aa;have jl:x.kids.take (i+1)=x.kids.take i++[(z:Int)]:=Gj;have hs1:0<ns[z].text.size:=by
    have h2:(z:Int)∈x.kids.dropLast:=by
     rw [←hz];have h3:i<x.kids.dropLast.length:=Mn;have h4:x.kids.dropLast[i]=x.kids[i]:=ai;rw [←h4];exact List.getElem_mem h3
    have:=Htx.out _ h2;rw [hti] at this;simpa using this
   have s1a:(0:Int)<(ns[z].text.size:Int):=aa;have Hti:=hid hti;have pQ:=hid jl;have X7:=hid iW;have Hbk:=hid dz;rw [iW] at c2 ⊢;clear hti jl iW jx hx2 hf2 hz lB d0 d2 d3;generalize ns[z].text=s1 at*;go_wp2;go_loopw [149] (fun jv wr=>∃(j:Nat) (g2:eo),jv=.int .i64 j∧j≤i∧wr=grow (w.alloc (.cells #[Value.int IntKind.i64 1,Value.string x.text,Value.slice (some ⟨bk,ok,none⟩) q x.aC,Value.int IntKind.i64 x.place] 30)) g2∧Hid (∀j':Nat,j'<j→(aQ ns (x.kids.getD j' 0)).take 1≠s1.data.toList.take 1)) (fun jv _=>i - (intOf jv).toNat)
   case atStart=>exact⟨0,g,rfl,by omega,rfl,fun j' h=>by omega⟩
   case round=>
    obtain⟨j,g2,rfl,hj,rfl,hJ⟩:=hrel;by_cases Dv:j<i
    ·have qA:j<x.kids.length:=by have:=Hq.out;have:=Hr.out;omega
     obtain⟨bk',ok',BS,Ir,hcj⟩:=cF Hf.out qA;have jx:x.kids.getD j 0=x.kids[j]:=Mo;have BU:=qZ.out x.kids[j] (List.getElem_mem qA);rw [X7.out] at BS;cases BS;rw [jx] at hcj;obtain⟨y,hy⟩:∃y:Nat,x.kids[j]=(y:Int):=⟨(x.kids[j]).toNat,by omega⟩;rw [hy] at BU hcj;have DA:y<ns.length:=aa;obtain⟨b3,o3,PN,hb3,hx3,hf3,f0,f1,f2,f3⟩:=aY Ha.out DA;cases PN;have htj:=fT hx3;have y0:(0:Int)≤(y:Int):=aa;have y1:(y:Int)<(L:Int):=dG;have j0:(0:Int)≤(j:Int):=aa;have j1:(j:Int)<(i:Int):=aa;have hs2:0<ns[y].text.size:=by
      have h2:(y:Int)∈x.kids.dropLast:=by
       rw [←hy];have h3:j<x.kids.dropLast.length:=Mn;have h4:x.kids.dropLast[j]=x.kids[j]:=ai;rw [←h4];exact List.getElem_mem h3
      have:=Htx.out _ h2;rw [htj] at this;simpa using this
     have s2a:(0:Int)<(ns[y].text.size:Int):=aa;have Htj:=hid htj;have Hgj:=hid (jx.trans hy);clear htj jx hx3 hf3 hy f0 f2 f3 Ir;generalize ns[y].text=s2 at*;have hfe:=hid (Mm hs1 hs2);obtain⟨b1,agm⟩:∃b1,(s1[0]'hs1).toNat=b1:=⟨_,rfl⟩;obtain⟨b2',agn⟩:∃b2,(s2[0]'hs2).toNat=b2:=⟨_,rfl⟩;have Yl:=hfe.out;rw [agm,agn] at Yl;have Hfe:=hid Yl;clear hfe Yl;cases he:((b1:Int)==(b2':Int)) with
     |true=>
      have hno:¬((x.kids.dropLast.map (fun k=>(aQ ns k).take 1)).Nodup):=fun h=>by
       have h2:(x.kids.dropLast.map (fun k=>(aQ ns k).take 1))[i]?=(x.kids.dropLast.map (fun k=>(aQ ns k).take 1))[j]?:=by
        have e1:x.kids[i]?=some (z:Int):=by
         have:=pQ.out;have h3:=congrArg (fun l=>l[i]?) this;simp only [List.getElem?_take_of_lt (Nat.lt_succ_self i)] at h3;rw [h3,List.getElem?_append_right aV];simp [show min i x.kids.length=i by have:=Hq.out;have:=Hr.out;omega]
        have e2:x.kids[j]?=some (y:Int):=by
         exact Mp
        have d1:x.kids.dropLast[i]?=x.kids[i]?:=by rw [List.dropLast_eq_take,List.getElem?_take_of_lt (by have:=Hq.out;have:=Hr.out;omega)]
        have d2:x.kids.dropLast[j]?=x.kids[j]?:=by rw [List.dropLast_eq_take,List.getElem?_take_of_lt (by have:=Hq.out;have:=Hr.out;omega)]
        rw [List.getElem?_map,List.getElem?_map,d1,d2,e1,e2];simp only [Option.map_some];rw [Hti.out,Htj.out];congr 1;have:=Hfe.out;rw [he] at this;exact of_decide_eq_true this.symm
       have h4:=(List.getElem?_inj Mn h).1 h2;omega
      have HD:Hid (decide ((x.kids.dropLast.map (fun k=>(aQ ns k).take 1)).Nodup)=false):=hid (decide_eq_false hno);clear hno;go_wp2;go_quiet (fail);exact Vo
     |false=>
      have Hne:Hid (∀j':Nat,j'<j+1→(aQ ns (x.kids.getD j' 0)).take 1≠s1.data.toList.take 1):=hid fun j' h=>by
       rcases Nat.lt_or_ge j' j with h2|h2
       ·exact hJ.out j' h2
       ·obtain rfl:j'=j:=by omega
        rw [Hgj.out,Htj.out];intro e;have h5:=Hfe.out;rw [he] at h5;exact absurd (decide_eq_true e.symm) (by rw [←h5];simp)
      exact Mq
    ·obtain rfl:j=i:=by omega
     have HN:Hid (((x.kids.take (j+1)).map (fun k=>(aQ ns k).take 1)).Nodup):=hid (by
      rw [pQ.out,List.map_append,List.map_cons,List.map_nil,Hti.out,List.nodup_append];refine⟨hR.out,by simp,fun a ha b' hb' e=>?_⟩;simp at hb';subst hb';subst e;obtain⟨k,tD,hk2⟩:=List.mem_map.1 ha;obtain⟨j',hj',hk3⟩:=List.mem_iff_getElem.1 tD;rw [List.length_take] at hj';rw [List.getElem_take] at hk3;refine hJ.out j' aa ?_;rw [List.getD,List.getElem?_eq_getElem aa,Option.getD_some,hk3];exact hk2)
     exact Mr
  ·obtain rfl:i=r:=by omega
   have hr:=hR.out;rw [show x.kids.take i=x.kids.dropLast by rw [List.dropLast_eq_take];congr 1;have:=Hq.out;have:=Hr.out;omega] at hr;have HD:Hid (decide ((x.kids.dropLast.map (fun k=>(aQ ns k).take 1)).Nodup)=true):=hid (decide_eq_true hr);have j1:¬(i:Int)<(i:Int):=aa;clear hR hr;exact Vo
end Go.Proofs.YtbgjanmheagilaaGreatDoor
/- A part of the proof. Conditions: none. -/
set_option maxRecDepth 100000
set_option maxHeartbeats 8000000
namespace Go.Proofs.YtbgjanmheagilaaGreatDoor
open Go Go.RowKit Go.Nodes
structure O8 (ns:List Nd) (i:Nat) (x:Nd):Prop where
 k1:1≤x.kind
 JJ:x.kind≤36
 kids:∀k∈x.kids,0≤k∧k<i
 fits:bE (aI x.kind.toNat) (aO ns x.kids)=true
 text:mJ x.kind.toNat x.text.data.toList x.kids.length=true
theorem CW {k:Nat} (h:iX k 104=true):k=2:=Nat.eq_of_beq_eq_true h
theorem rI {ks:List Nat} (h:bE [104,42,98] ks=true):∀k∈ks.dropLast,k=2:=by
 unfold bE at h;rw [if_neg ay] at h;split at h
 ·cases h
 ·split at h
  ·cases h
  ·rw [show([104,42,98]:List UInt8).length - 2*([104,42,98]:List UInt8).count 42=1 by decide] at h;have h2:((ks.take (ks.length - 1)).all (fun k=>iX k 104) && fL (ks.length - 1) [42,98] (ks.drop (ks.length - 1)))=true:=h;rw [Bool.and_eq_true] at h2;intro k hk;rw [List.dropLast_eq_take] at hk;exact CW (List.all_eq_true.1 h2.1 k hk)
theorem Jq {l:List UInt8} (h:jK l=true):0<l.length:=by
 cases l with
 |nil=>cases h
 |cons a l=>simp
theorem Xg {l:List UInt8} (h:Dq.contains l=true):1≤bn l:=by
 simp only [Dq,List.contains_cons,List.contains_nil,Bool.or_false,Bool.or_eq_true] at h;rcases h with h|h
 ·rw [eq_of_beq h];decide
 ·rw [eq_of_beq h];decide
def eZ (ns:List Nd):Prop:=∀x∈ns,x.kids.length≤x.aC
theorem yC {ns:List Nd} {n:Nat} {x:Nd} (hx:O8 ns n x) (hv:iZ ns n) (hn:n≤ns.length) (hk:x.kind=1):∀k∈x.kids.dropLast,0<(aQ ns k).length:=by
 intro k hk2;have hf:=hx.fits;rw [hk] at hf;have h1:=rI hf (ag ns k).toNat (by
  unfold aO;rw [←List.map_dropLast];exact List.mem_map.2 ⟨k,hk2,rfl⟩)
 have eC:=hx.kids k (List.dropLast_subset _ hk2);obtain⟨z,rfl⟩:∃z:Nat,k=(z:Int):=⟨k.toNat,by omega⟩;have hzl:z<ns.length:=aa;have hg:ns[z]?=some ns[z]:=List.getElem?_eq_getElem hzl;have hvz:=hv z _ aa hg;rw [aR hg] at h1;rw [fT hg];have:=hvz.text;rw [h1] at this;exact Jq this
theorem IP (w:World) (p:Option Addr) (c:Nat) (ns:List Nd) (hs:Small ns) (hc:eZ ns) (ha:aj w p ns) (n:Nat) (hn:n<ns.length) (hv:iZ ns n) (hx:O8 ns n ns[n]):
  Calls Tryz.prog 44 #[.slice p ns.length c,.int .i64 (n:Int)] w fun e w'=>e=.returned (.bool (fZ ns ns[n]))∧Below w.heap.size w w':=by
 have hL:(ns.length:Int)≤5000:=by have:=hs.1;omega
 have eM:=(hs.2 ns[n] (List.getElem_mem hn)).1;have bL:=hc ns[n] (List.getElem_mem hn);unfold fZ;by_cases h3:ns[n].kind=3
 ·rw [if_pos h3];exact CX w p c ns hL ha n hn h3 aa hx.kids
 rw [if_neg h3];by_cases h67:ns[n].kind=6∨ns[n].kind=7
 ·rw [if_pos h67];exact Fp w p c ns hL ha n hn hv h67 (pX hx.fits aa) hx.kids
 rw [if_neg h67];by_cases Io:ns[n].kind=21
 ·rw [if_pos Io];refine wS w p c ns hL ha n hn Io eM hx.kids fun h=>?_
  have:=hx.text;rw [Io] at this;have h2:bn ns[n].text.data.toList=(ns[n].kids.length:Int):=of_decide_eq_true this;have:=Xg h;omega
 rw [if_neg Io];by_cases Dy:ns[n].kind=32
 ·rw [if_pos Dy];exact CY w p c ns hL ha n hn Dy aa hx.kids aa
 rw [if_neg Dy];by_cases h1:ns[n].kind=1
 ·rw [if_pos h1];exact wQ w p c ns hL ha n hn h1 aa hx.kids (pX hx.fits aa) (yC hx hv aa h1) aa
 rw [if_neg h1];exact CZ w p c ns hL ha n hn ⟨h1,h3,by omega,by omega,Io,Dy⟩
end Go.Proofs.YtbgjanmheagilaaGreatDoor
/- A part of the proof. Conditions: none. -/
set_option maxRecDepth 100000
set_option maxHeartbeats 8000000
namespace Go.Proofs.YtbgjanmheagilaaGreatDoor
open Go Go.RowKit Go.Nodes
theorem cC {w w':World} {B:Nat} {e:TypeId} {size:Nat} {v:Value} {n:Nat} {xs:List Value} (h:w.ownsRow B e size v n xs) (hb:Below w.heap.size w w'):w'.ownsRow B e size v n xs:=by
 obtain⟨h1,h2⟩:=h;refine⟨h1, ?_⟩;rcases h2 with h2|⟨g,cap,cur,hv,hg,hh,hr⟩
 ·exact Or.inl h2
 ·exact Or.inr ⟨g,cap,cur,hv,hg,by rw [hb.block g (Array.getElem?_eq_some_iff.1 hh).1];exact hh,hr⟩
def Ints (B:Nat) (w:World) (v:Value) (l:List Int):Prop:=w.ownsRow B 3 1 v l.length (l.map (Value.int .i64))
theorem cY {P:Program} (w:World) (base:Nat) (t ty e:TypeId) (i:TypeInfo) (z:Value) (size bytes:Nat) (ht:P.underlying t=some (.slice e)) (hi:P.info? e=some i) (hz:i.zero=some z)
  (hsize:i.size=size) (hby:i.bytes=bytes) (hzs:z.cells.size=size) (hsz:0<size) (v:Value) (n:Nat) (xs:List Value) (hown:w.ownsRow base e size v n xs)
  (a:Addr) (m c:Nat) (hm:0<m) (news:List Value) (hl:news.length=m*size) (hnews:∀j u,news[j]?=some u→w.cell? (a.add j)=some u) (h1:∀u∈news,u.oneCell'=true)
  (h63:n+m≤maxLen) (hbytes:(n+m)*bytes≤140737488355328) (hbase:base≤w.heap.size):
  ∃v' w',(Builtin.append_ #[t,t] ty #[v,.slice (some a) m c]).run P w=.ok v' w'∧w'.ownsRow base e size v' (n+m) (xs++news)∧w.grownBy w' v.ownBlock∧(v'.ownBlock=v.ownBlock∨v'.ownBlock=some w.heap.size):=by
 obtain⟨v',w',hr,h2,h3,h4⟩:=run_append_own (P:=P) w base t ty e i z size bytes ht hi hz hsize hby hzs hsz v n xs hown a m c news hl hnews h1 h63 hbytes hbase;refine⟨v',w',hr,h2,h3, ?_⟩;subst hsize;subst hby
 rcases hown.2 with⟨rfl,rfl⟩|⟨g,cap,cur,rfl,hbg,hg,hnc,hcm,hcs,jl⟩
 ·have hr2:=run_append_nil (P:=P) w t ty e i z ht hi hz a m c news hl hnews aa (by unfold maxLen at h63;omega) (by have hb:=hbytes;simp only [Nat.zero_add] at hb;omega);rw [hr] at hr2;cases hr2;exact .inr rfl
 ·by_cases hroom:n+m≤cap
  ·have fS:n*i.size+news.length≤cur.size:=by rw [hl,hcs,←Nat.add_mul];exact Nat.mul_le_mul_right _ hroom
   have hr2:=run_append_room (P:=P) w t ty e i ht hi g n cap cur hg a m c news hl hnews h1 hroom fS;rw [hr] at hr2;cases hr2;exact .inl rfl
  ·have holds:∀j u,xs[j]?=some u→w.cell? ((⟨g,0,none⟩:Addr).add j)=some u:=hown.cells (g:=g) rfl;have hr2:=run_append_grow (P:=P) w t ty e i z ht hi hz ⟨g,0,none⟩ n cap xs hown.1 holds a m c news hl hnews aa (by unfold maxLen at h63;omega) (growslice_fits aa hbytes);rw [hr] at hr2;cases hr2;exact .inr rfl
theorem gS {P:Program} (w:World) {ops:Array Oper} {rest:List Oper} {o:Oper} {a:Act} {Q:Exit→Act→World→Prop} (hgd:o.guard=none) (s x:Operand) (t:TypeId)
  (ho:o.op=.call {callee:=.builtin .append,args:=#[s,x],argTypes:=#[t,t]})
  (base:Nat) (e:TypeId) (i:TypeInfo) (z:Value) (size bytes:Nat) (ht:P.underlying t=some (.slice e)) (hi:P.info? e=some i) (hz:i.zero=some z)
  (hsize:i.size=size) (hby:i.bytes=bytes) (hzs:z.cells.size=size) (hsz:0<size) (v:Value) (n:Nat) (xs:List Value) (hs:a.eval s=v) (hown:w.ownsRow base e size v n xs)
  (ad:Addr) (m c:Nat) (hm:0<m) (news:List Value) (hx:a.eval x=.slice (some ad) m c) (hl:news.length=m*size) (hnews:∀j u,news[j]?=some u→w.cell? (ad.add j)=some u) (h1:∀u∈news,u.oneCell'=true)
  (h63:n+m≤maxLen) (hbytes:(n+m)*bytes≤140737488355328) (hbase:base≤w.heap.size)
  (h:∀v' w',w'.ownsRow base e size v' (n+m) (xs++news)→w.grownBy w' v.ownBlock→(v'.ownBlock=v.ownBlock∨v'.ownBlock=some w.heap.size)→wpList P ops Q rest (a.put o.dst v') w'):wpList P ops Q (o::rest) a w:=
 wpList_plain hgd fun _ hK=>by
  obtain⟨v',w',hr,h2,h3,h4⟩:=cY (P:=P) w base t o.type e i z size bytes ht hi hz hsize hby hzs hsz v n xs hown ad m c hm news hl hnews h1 h63 hbytes hbase;unfold Oper.wp execOp;simp only [ho,resolve,invoke,builtin,Sem.run_bind,Sem.run_pure,Result.andThen_ok,List.map_toArray,List.map_cons,List.map_nil,hs,hx,hr];exact hK _ _ (h v' w' h2 h3 h4)
theorem fc {w:World} {ops:Array Oper} {rest:List Oper} {o:Oper} {a:Act} {Q:Exit→Act→World→Prop} (hgd:o.guard=none) (s x:Operand)
  (ho:o.op=.call {callee:=.builtin .append,args:=#[s,x],argTypes:=#[28,28]}) (base:Nat) (v:Value) (xs:List Int) (y:Int) (g c:Nat) (hs:a.eval s=v) (hown:Ints base w v xs) (hx:a.eval x=.slice (some ⟨g,0,none⟩) 1 c) (hc:w.cell? ⟨g,0,none⟩=some (.int .i64 y))
  (hl:xs.length≤1000000) (hbase:base≤w.heap.size)
  (h:∀v' w',Ints base w' v' (xs++[y])→w.grownBy w' v.ownBlock→(v'.ownBlock=v.ownBlock∨v'.ownBlock=some w.heap.size)→wpList Tryz.prog ops Q rest (a.put o.dst v') w'):wpList Tryz.prog ops Q (o::rest) a w:=by
 obtain⟨iI,Ei,Ej,Ek,El⟩:=info_parts Tryz.uo;refine gS w hgd s x 28 ho base 3 iI (.int .i64 0) 1 8 Tryz.underlying28 Ei Ej Ek El rfl ay v xs.length (xs.map (Value.int .i64)) hs hown ⟨g,0,none⟩ 1 c ay [.int .i64 y] hx ai ?_ ?_ kT aa hbase fun v' w' h1 h2 h3=>h v' w' ?_ h2 h3
 ·intro j q hj;cases j with
  |zero=>simp at hj;subst hj;exact hc
  |succ j=>simp at hj
 ·intro q hq;simp at hq;subst hq;rfl
 ·unfold Ints;rw [List.length_append,List.map_append];exact h1
theorem Ints.out {B:Nat} {w:World} {v:Value} {l:List Int} (h:Ints B w v l):∃p c,v=.slice p l.length c∧bR w p l:=by
 rcases h.2 with⟨rfl,h0⟩|⟨g,cap,cur,rfl,_,hh,hn,hc,hs,ht⟩
 ·have:l=[]:=by simpa using h0
  subst this;exact⟨none,0,rfl,.inl rfl⟩
 ·refine⟨_,_,rfl,.inr ⟨g,0,rfl,(Array.getElem?_eq_some_iff.1 hh).1,fun i hi=>?_⟩⟩;have h1:(cur.toList.take (l.length*1))[i]?=some (.int .i64 l[i]):=by rw [ht];simp
  rw [List.getElem?_take_of_lt aa] at h1;simp only [World.cell?,hh,Nat.zero_add];simpa using h1
end Go.Proofs.YtbgjanmheagilaaGreatDoor