/- A part of the proof. Conditions: none. -/
import Derived.Test.YtjchnliaglecoaaGreatDoorZz
import Derived.Test.YtjchnliaglecoaaGreatDoorMpX
import Derived.Test.YtjchnliaglecoaaGreatDoorTb
import Derived.Deep.RegionHeld3
import Derived.Test.YtjchnliaglecoaaGreatDoorKfX
import Derived.Test.YtjchnliaglecoaaGreatDoorDwX
import Derived.Outline
import Derived.Deep.QuietTactic
import Derived.BigQuiet
import Derived.Test.YtjchnliaglecoaaGreatDoorTs
import Derived.Laws.AppendOwn
set_option linter.unusedVariables false
set_option linter.unusedSimpArgs false
set_option maxRecDepth 100000
set_option maxHeartbeats 8000000
namespace Go.Proofs.YtjchnliaglecoaaGreatDoor
open Go Go.RowKit
def zY:List (List UInt8):=[[48],[49],[50],[51],[52],[53],[54],[55]]
theorem WQ (s:ByteArray) (hs:s.size≤100000) (w:World) (hl:bZ w):Calls Tryz.prog 182 #[.string s,.string ⟨#[48,32,49,32,50,32,51,32,52,32,53,32,54,32,55]⟩] w fun e w'=>e=.returned (.bool (zY.contains s.data.toList))∧Below w.heap.size w w':=by
 have:=oD s ⟨#[48,32,49,32,50,32,51,32,52,32,53,32,54,32,55]⟩ hs aj w hl
 rwa [vJ (W:=zY) eV eV] at this
def qz:List (List UInt8):=[[116,114,117,101],[102,97,108,115,101]]
theorem Wo (s:ByteArray) (hs:s.size≤100000) (w:World) (hl:bZ w):Calls Tryz.prog 182 #[.string s,.string ⟨#[116,114,117,101,32,102,97,108,115,101]⟩] w fun e w'=>e=.returned (.bool (qz.contains s.data.toList))∧Below w.heap.size w w':=by
 have:=oD s ⟨#[116,114,117,101,32,102,97,108,115,101]⟩ hs aj w hl
 rwa [vJ (W:=qz) eV eV] at this
def gW:List (List UInt8):=[[97,110,121],[110,105,108],[98,111,111,108],[105,110,116],[115,116,114,105,110,103],[116,97,98,108,101],[116,104,114,101,97,100]]
theorem Ou (s:ByteArray) (hs:s.size≤100000) (w:World) (hl:bZ w):Calls Tryz.prog 182 #[.string s,.string ⟨#[97,110,121,32,110,105,108,32,98,111,111,108,32,105,110,116,32,115,116,114,105,110,103,32,116,97,98,108,101,32,116,104,114,101,97,100]⟩] w fun e w'=>e=.returned (.bool (gW.contains s.data.toList))∧Below w.heap.size w w':=by
 have:=oD s ⟨#[97,110,121,32,110,105,108,32,98,111,111,108,32,105,110,116,32,115,116,114,105,110,103,32,116,97,98,108,101,32,116,104,114,101,97,100]⟩ hs aj w hl
 rwa [vJ (W:=gW) eV eV] at this
def O6:List (List UInt8):=[[45],[110,111,116],[35]]
theorem ajy (s:ByteArray) (hs:s.size≤100000) (w:World) (hl:bZ w):Calls Tryz.prog 182 #[.string s,.string ⟨#[45,32,110,111,116,32,35]⟩] w fun e w'=>e=.returned (.bool (O6.contains s.data.toList))∧Below w.heap.size w w':=by
 have:=oD s ⟨#[45,32,110,111,116,32,35]⟩ hs aj w hl
 rwa [vJ (W:=O6) eV eV] at this
def mO:List (List UInt8):=[[43],[45],[42],[47,47],[37],[46,46],[61,61],[126,61],[60],[60,61],[62],[62,61]]
theorem acm (s:ByteArray) (hs:s.size≤100000) (w:World) (hl:bZ w):Calls Tryz.prog 182 #[.string s,.string ⟨#[43,32,45,32,42,32,47,47,32,37,32,46,46,32,61,61,32,126,61,32,60,32,60,61,32,62,32,62,61]⟩] w fun e w'=>e=.returned (.bool (mO.contains s.data.toList))∧Below w.heap.size w w':=by
 have:=oD s ⟨#[43,32,45,32,42,32,47,47,32,37,32,46,46,32,61,61,32,126,61,32,60,32,60,61,32,62,32,62,61]⟩ hs aj w hl
 rwa [vJ (W:=mO) eV eV] at this
def Iy:List (List UInt8):=[[114,101,97,100],[119,114,105,116,101]]
theorem ajL (s:ByteArray) (hs:s.size≤100000) (w:World) (hl:bZ w):Calls Tryz.prog 182 #[.string s,.string ⟨#[114,101,97,100,32,119,114,105,116,101]⟩] w fun e w'=>e=.returned (.bool (Iy.contains s.data.toList))∧Below w.heap.size w w':=by
 have:=oD s ⟨#[114,101,97,100,32,119,114,105,116,101]⟩ hs aj w hl
 rwa [vJ (W:=Iy) eV eV] at this
theorem wT (s:ByteArray) (hs:s.size≤100000) (w:World) (hl:bZ w):Calls Tryz.prog 186 #[.string s] w fun e w'=>e=.returned (.bool (zY.contains s.data.toList))∧Below w.heap.size w w':=by
 have h:=WQ s hs w hl;generalize zY.contains s.data.toList=x at*;have H:=hid h;clear hl h;go_enter Tryz.func186,Tryz.ntmps186;go_wp2_with (go_at_call 182;((with_reducible refine H.out.mono ?_));rintro e w' ⟨rfl,hb⟩;obtain⟨g,rfl⟩:=aC hb;clear hb);go_ret;exact⟨rfl,bG (Below.refl _ _) _⟩
def gj (l:List UInt8):Bool:=match l with
 |[b]=>Nat.ble 48 b.toNat && Nat.ble b.toNat 55
 |_=>false
theorem GR (l:List UInt8):zY.contains l=gj l:=by
 match l with
 |[]=>rfl
 |[b]=>
  have h:((List.range 256).all fun n=>decide (zY.contains [n.toUInt8]=gj [n.toUInt8]))=true:=eV;have h2:=of_decide_eq_true (List.all_eq_true.1 h b.toNat (List.mem_range.2 b.toNat_lt));simpa using h2
 |a::b::l=>simp [zY,gj]
theorem WR:((List.range 256).all fun c=>mX 115 [str [c.toUInt8]] (.bool (gj [c.toUInt8])))=true:=by kernel_rfl
theorem WS (s:ByteArray) (hs:((s.size:Int)==1)=false) (w:World):Calls Tryz.prog 115 #[.string s] w fun e w'=>e=.returned (.bool false)∧Below w.heap.size w w':=by
 go_enter Tryz.func115,Tryz.ntmps115;exact zH
theorem CC (s:ByteArray) (w:World):Calls Tryz.prog 115 #[.string s] w fun e w'=>e=.returned (.bool (gj s.data.toList))∧Below w.heap.size w w':=by
 have jf:s.data.toList.length=s.size:=ak;by_cases h1:s.size=1
 ·obtain⟨b,hb⟩:∃b,s.data.toList=[b]:=by
   match h:s.data.toList with
   |[]=>rw [h] at jf;simp at jf;omega
   |[b]=>exact⟨b,rfl⟩
   |a::b::l=>rw [h] at jf;simp at jf;omega
  have e:s=⟨[b].toArray⟩:=by rw [←hb]
  have:=uR WR b.toNat b.toNat_lt w;have e2:b.toNat.toUInt8=b:=ak;rw [e2] at this;rw [e];exact this
 ·have h2:gj s.data.toList=false:=by
   unfold gj;split
   ·rename_i b h;rw [h] at jf;simp at jf;omega
   ·rfl
  rw [h2];refine WS s ?_ w;cases e:((s.size:Int)==1) with
  |false=>rfl
  |true=>have:=eq_of_beq e;omega
theorem WT:(gW.all fun l=>mX 118 [str l] (.bool true))=true:=by kernel_rfl
theorem qw {W:List (List UInt8)} {l m:List UInt8} (h:l ∉ W) (hm:m∈W):(l==m)=false:=by
 cases e:l==m with
 |false=>rfl
 |true=>exact absurd (eq_of_beq e ▸ hm) h
theorem acq (s:ByteArray) (h:s.data.toList ∉ gW) (w:World):Calls Tryz.prog 118 #[.string s] w fun e w'=>e=.returned (.bool false)∧Below w.heap.size w w':=by
 have h0:(s.toList==[97,110,121])=false:=by rw [ByteArray.toList_eq];exact qw h aj
 have h1:(s.toList==[110,105,108])=false:=by rw [ByteArray.toList_eq];exact qw h aj
 have h2:(s.toList==[98,111,111,108])=false:=by rw [ByteArray.toList_eq];exact qw h aj
 have h3:(s.toList==[105,110,116])=false:=by rw [ByteArray.toList_eq];exact qw h aj
 have h4:(s.toList==[115,116,114,105,110,103])=false:=by rw [ByteArray.toList_eq];exact qw h aj
 have h5:(s.toList==[116,97,98,108,101])=false:=by rw [ByteArray.toList_eq];exact qw h aj
 have h6:(s.toList==[116,104,114,101,97,100])=false:=by rw [ByteArray.toList_eq];exact qw h aj
 clear h;go_enter Tryz.func118,Tryz.ntmps118;exact zH
theorem WM (s:ByteArray) (w:World):Calls Tryz.prog 118 #[.string s] w fun e w'=>e=.returned (.bool (gW.contains s.data.toList))∧Below w.heap.size w w':=by
 by_cases h:s.data.toList∈gW
 ·have:=kY (List.all_eq_true.1 WT _ h) w;rw [show gW.contains s.data.toList=true by simpa using h];have e:s=⟨s.data.toList.toArray⟩:=ak;rw [e];exact this
 ·rw [show gW.contains s.data.toList=false by simpa using h];exact acq s h w
end Go.Proofs.YtjchnliaglecoaaGreatDoor

/- A part of the proof. Conditions: none. -/
set_option maxRecDepth 100000
set_option maxHeartbeats 8000000
namespace Go.Proofs.YtjchnliaglecoaaGreatDoor
open Go Go.RowKit
def xw (l:List UInt8):Bool:=match gF l with
 |none=>false
 |some n=>decide (Lib.itoa (wrap64 n)=l)
def ny (l:List UInt8):Bool:=match l with
 |c::32::m=>gj [c] && eG m
 |_=>false
def ru (k:Nat) (l:List UInt8) (nk:Nat):Bool:=
 if k=4∨k=5∨k=17∨k=23 then dR l && decide (bn l<0) else if k=18∨k=25∨k=33 then dR l else if k=16 then true else if k=14 then qz.contains l
 else if k=15 then xw l else if k=31 then gW.contains l else if k=28 then O6.contains l else if k=27 then mO.contains l else if k=21 then decide (bn l=(nk:Int))
 else if k=36 then eG l else if k=2 then ny l else l.isEmpty
def dy (f K:Nat):Prop:=∀(s:ByteArray),s.size≤100000→∀(kp:Option Addr) (nk kc:Nat) (bE:Int) (w:World),bZ w→Calls Tryz.prog f #[.agg #[.int .i64 K,.string s,.slice kp nk kc,.int .i64 bE]] w fun e w'=>e=.returned (.bool (ru K s.data.toList nk))∧Below w.heap.size w w'
theorem ag1:dy 141 1:=by
 exact ij
theorem ag3:dy 141 3:=by
 exact ij
theorem ag4:dy 141 4:=by
 exact L9
theorem ag5:dy 141 5:=by
 exact L9
theorem ag6:dy 141 6:=by
 exact ij
theorem ag7:dy 141 7:=by
 exact ij
theorem ag8:dy 141 8:=by
 exact ij
theorem ag9:dy 141 9:=by
 exact ij
theorem Yi:dy 141 10:=by
 exact ij
theorem Yj:dy 141 11:=by
 exact ij
theorem Yk:dy 141 12:=by
 exact ij
theorem Yl:dy 141 13:=by
 exact ij
theorem Ym:dy 141 14:=by
 intro s hs kp nk kc bE w hl;show Calls _ _ _ _ fun e w'=>e=.returned (.bool (qz.contains s.data.toList))∧Below w.heap.size w w'
 have H1:Hid (∀w',Below w.heap.size w w'→Calls Tryz.prog 182 #[.string s,.string ⟨#[116,114,117,101,32,102,97,108,115,101]⟩] w' fun e w2=>e=.returned (.bool (qz.contains s.data.toList))∧Below w'.heap.size w' w2):=hid fun w' h=>Wo s hs w' (hl.later h)
 clear hl;generalize qz.contains s.data.toList=x at*;go_enter Tryz.func141,Tryz.ntmps141;go_wp2_with (first
  |(go_at_call 182;((with_reducible refine(H1.out _ ?_).mono ?_));rotate_left;rintro e w' ⟨rfl,hb⟩;obtain⟨g1,rfl⟩:=aC hb;clear hb))
 all_goals first
  |(go_ret;exact⟨rfl,dB⟩)
  |exact by repeat (first|exact Below.refl _ _|refine bG ?_ _|refine bI ?_ _ _|refine bA ?_ _|refine bD ?_|refine bN ?_ _)
theorem Yo:dy 141 16:=by
 intro s hs kp nk kc bE w hl;show Calls _ _ _ _ fun e w'=>e=.returned (.bool true)∧Below w.heap.size w w'
 clear hl;go_enter Tryz.func141,Tryz.ntmps141;exact Ko
theorem Yp:dy 141 17:=by
 exact L9
theorem Yq:dy 141 18:=by
 exact TK
theorem Yr:dy 141 19:=by
 exact ij
theorem Ys:dy 141 20:=by
 exact ij
theorem Yt:dy 141 21:=by
 intro s hs kp nk kc bE w hl;show Calls _ _ _ _ fun e w'=>e=.returned (.bool (decide (bn s.data.toList=(nk:Int))))∧Below w.heap.size w w'
 have H2:Hid (∀w',Calls Tryz.prog 181 #[.string s] w' fun e w2=>e=.returned (.int .i64 (bn s.data.toList))∧Below w'.heap.size w' w2):=hid fun w'=>by
  have:=sS s w'
  rwa [ByteArray.toList_eq] at this
 clear hl;generalize bn s.data.toList=n at*;go_enter Tryz.func141,Tryz.ntmps141;go_wp2_with fail;go_region_held3 (fun w'=>w'.cell? ⟨w.heap.size,1,none⟩=some (.string s)∧w'.cell? ⟨w.heap.size,2,none⟩=some (.slice kp nk kc)) (simp [go_sem])
  (first|(go_at_call 181;((with_reducible refine(H2.out _).mono ?_));rintro e w' ⟨rfl,hb⟩;obtain⟨g2,rfl⟩:=aC hb;clear hb))
 exact Ud
theorem Yu:dy 141 22:=by
 exact ij
theorem Yv:dy 141 23:=by
 exact L9
theorem Yw:dy 141 24:=by
 exact ij
theorem Yx:dy 141 25:=by
 exact TK
theorem Yy:dy 141 26:=by
 exact ij
theorem Yz:dy 141 27:=by
 intro s hs kp nk kc bE w hl;show Calls _ _ _ _ fun e w'=>e=.returned (.bool (mO.contains s.data.toList))∧Below w.heap.size w w'
 have H1:Hid (∀w',Below w.heap.size w w'→Calls Tryz.prog 182 #[.string s,.string ⟨#[43,32,45,32,42,32,47,47,32,37,32,46,46,32,61,61,32,126,61,32,60,32,60,61,32,62,32,62,61]⟩] w' fun e w2=>e=.returned (.bool (mO.contains s.data.toList))∧Below w'.heap.size w' w2):=hid fun w' h=>acm s hs w' (hl.later h)
 clear hl;generalize mO.contains s.data.toList=x at*;go_enter Tryz.func141,Tryz.ntmps141;go_wp2_with (first
  |(go_at_call 182;((with_reducible refine(H1.out _ ?_).mono ?_));rotate_left;rintro e w' ⟨rfl,hb⟩;obtain⟨g1,rfl⟩:=aC hb;clear hb))
 all_goals first
  |(go_ret;exact⟨rfl,dB⟩)
  |exact by repeat (first|exact Below.refl _ _|refine bG ?_ _|refine bI ?_ _ _|refine bA ?_ _|refine bD ?_|refine bN ?_ _)
theorem YA:dy 141 28:=by
 intro s hs kp nk kc bE w hl;show Calls _ _ _ _ fun e w'=>e=.returned (.bool (O6.contains s.data.toList))∧Below w.heap.size w w'
 have H1:Hid (∀w',Below w.heap.size w w'→Calls Tryz.prog 182 #[.string s,.string ⟨#[45,32,110,111,116,32,35]⟩] w' fun e w2=>e=.returned (.bool (O6.contains s.data.toList))∧Below w'.heap.size w' w2):=hid fun w' h=>ajy s hs w' (hl.later h)
 clear hl;generalize O6.contains s.data.toList=x at*;go_enter Tryz.func141,Tryz.ntmps141;go_wp2_with (first
  |(go_at_call 182;((with_reducible refine(H1.out _ ?_).mono ?_));rotate_left;rintro e w' ⟨rfl,hb⟩;obtain⟨g1,rfl⟩:=aC hb;clear hb))
 all_goals first
  |(go_ret;exact⟨rfl,dB⟩)
  |exact by repeat (first|exact Below.refl _ _|refine bG ?_ _|refine bI ?_ _ _|refine bA ?_ _|refine bD ?_|refine bN ?_ _)
theorem YC:dy 141 29:=by
 exact ij
theorem YD:dy 141 30:=by
 exact ij
theorem YE:dy 141 31:=by
 intro s hs kp nk kc bE w hl;show Calls _ _ _ _ fun e w'=>e=.returned (.bool (gW.contains s.data.toList))∧Below w.heap.size w w'
 have H1:Hid (∀w',Below w.heap.size w w'→Calls Tryz.prog 182 #[.string s,.string ⟨#[97,110,121,32,110,105,108,32,98,111,111,108,32,105,110,116,32,115,116,114,105,110,103,32,116,97,98,108,101,32,116,104,114,101,97,100]⟩] w' fun e w2=>e=.returned (.bool (gW.contains s.data.toList))∧Below w'.heap.size w' w2):=hid fun w' h=>Ou s hs w' (hl.later h)
 clear hl;generalize gW.contains s.data.toList=x at*;go_enter Tryz.func141,Tryz.ntmps141;go_wp2_with (first
  |(go_at_call 182;((with_reducible refine(H1.out _ ?_).mono ?_));rotate_left;rintro e w' ⟨rfl,hb⟩;obtain⟨g1,rfl⟩:=aC hb;clear hb))
 all_goals first
  |(go_ret;exact⟨rfl,dB⟩)
  |exact by repeat (first|exact Below.refl _ _|refine bG ?_ _|refine bI ?_ _ _|refine bA ?_ _|refine bD ?_|refine bN ?_ _)
theorem YG:dy 141 32:=by
 exact ij
theorem YH:dy 141 33:=by
 exact TK
theorem YI:dy 141 34:=by
 exact ij
theorem YJ:dy 141 35:=by
 exact ij
theorem YK:dy 141 36:=by
 intro s hs kp nk kc bE w hl;show Calls _ _ _ _ fun e w'=>e=.returned (.bool (eG s.data.toList))∧Below w.heap.size w w'
 have H1:Hid (∀w',Below w.heap.size w w'→Calls Tryz.prog 185 #[.string s] w' fun e w2=>e=.returned (.bool (eG s.data.toList))∧Below w'.heap.size w' w2):=hid fun w' h=>F4 s hs w' (hl.later h)
 clear hl;generalize eG s.data.toList=x at*;go_enter Tryz.func141,Tryz.ntmps141;go_wp2_with (first
  |(go_at_call 185;((with_reducible refine(H1.out _ ?_).mono ?_));rotate_left;rintro e w' ⟨rfl,hb⟩;obtain⟨g1,rfl⟩:=aC hb;clear hb))
 all_goals first
  |(go_ret;exact⟨rfl,dB⟩)
  |exact by repeat (first|exact Below.refl _ _|refine bG ?_ _|refine bI ?_ _ _|refine bA ?_ _|refine bD ?_|refine bN ?_ _)
end Go.Proofs.YtjchnliaglecoaaGreatDoor

/- A part of the proof. Conditions: none. -/
set_option maxRecDepth 100000
set_option maxHeartbeats 8000000
namespace Go.Proofs.YtjchnliaglecoaaGreatDoor
open Go Go.RowKit Go.Nodes
def aq (ns:List Nd) (n:Int):Int:=match ns[n.toNat]? with
 |some x=>x.kind
 |none=>0
def bL (ns:List Nd) (n:Int):List UInt8:=match ns[n.toNat]? with
 |some x=>x.text.data.toList
 |none=>[]
def WJ (ns:List Nd) (n:Int):Int:=match ns[n.toNat]? with
 |some x=>x.kids.getD 0 0
 |none=>0
def Bf (ns:List Nd):Nat→Int→Int
 |0,n=>aq ns n
 |f+1,n=>if aq ns n=18∨aq ns n=19∨aq ns n=20 then Bf ns f (WJ ns n) else aq ns n
def kX (ns:List Nd) (n:Int):Int:=Bf ns (n.toNat+1) n
def mI (ns:List Nd) (x:Nd):Bool:=
 if x.kind=3 then x.kids.dropLast.all (fun k=>decide (aq ns k≠10∧aq ns k≠11))
 else if x.kind=6∨x.kind=7 then decide (kX ns (x.kids.getD 0 0)=17∨kX ns (x.kids.getD 0 0)=21)
 else if x.kind=21 then(if Iy.contains x.text.data.toList then decide (aq ns (x.kids.getD 0 0)=15) && gj (bL ns (x.kids.getD 0 0)) else true)
 else if x.kind=32 then decide ((x.kids.map (bL ns)).Nodup)
 else if x.kind=1 then decide ((x.kids.dropLast.map (fun k=>(bL ns k).take 1)).Nodup)
 else true
def cR (ns:List Nd) (l:List Int):List Nat:=l.map fun k=>(aq ns k).toNat
structure RZ (ns:List Nd) (i:Nat) (x:Nd):Prop where
 k1:1≤x.kind
 Q4:x.kind≤36
 place:0≤x.place
 kids:∀k∈x.kids,0≤k∧k<i
 fits:fJ (dh x.kind.toNat) (cR ns x.kids)=true
 text:ru x.kind.toNat x.text.data.toList x.kids.length=true
 more:mI ns x=true
def oY (ns:List Nd) (n:Nat):Prop:=∀(i:Nat) (x:Nd),i<n→ns[i]?=some x→RZ ns i x
theorem uh {f:List UInt8} {ks:List Nat} (h:fJ f ks=true) (hd:f≠[46]):f.length - 2*f.count 42≤ks.length:=by
 unfold fJ at h;rw [if_neg hd] at h;split at h
 ·cases h
 ·omega
theorem tZ {ns:List Nd} {x:Nd} (hf:fJ (dh x.kind.toNat) (cR ns x.kids)=true) (hk:x.kind=1∨x.kind=6∨x.kind=7∨x.kind=18∨x.kind=19∨x.kind=20):0<x.kids.length:=by
 have hl:(cR ns x.kids).length=x.kids.length:=by simp [cR]
 rw [←hl];rcases hk with h|h|h|h|h|h
 all_goals
  rw [h] at hf;have:=uh hf aj;exact Nat.lt_of_lt_of_le aj this
theorem aL {ns:List Nd} {i:Nat} {x:Nd} (h:ns[i]?=some x):aq ns (i:Int)=x.kind:=by
 unfold aq;rw [Int.toNat_natCast,h]
theorem V2 {ns:List Nd} {i:Nat} {x:Nd} (h:ns[i]?=some x):WJ ns (i:Int)=x.kids.getD 0 0:=by
 unfold WJ;rw [Int.toNat_natCast,h]
theorem jy {ns:List Nd} {i:Nat} {x:Nd} (h:ns[i]?=some x):bL ns (i:Int)=x.text.data.toList:=by
 unfold bL;rw [Int.toNat_natCast,h]
theorem bh {w:World} {p:Option Addr} {ns:List Nd} (h:ay w p ns) {i:Nat} (hi:i<ns.length):∃b o,p=some ⟨b,o,none⟩∧b<w.heap.size∧ns[i]?=some ns[i]∧ns[i].fine w∧
  w.cell? ⟨b,o+i*4,none⟩=some (.int .i64 ns[i].kind)∧w.cell? ⟨b,o+i*4+1,none⟩=some (.string ns[i].text)∧
  w.cell? ⟨b,o+i*4+2,none⟩=some (.slice ns[i].kp ns[i].kids.length ns[i].aP)∧w.cell? ⟨b,o+i*4+3,none⟩=some (.int .i64 ns[i].place):=by
 rcases h.2.2 with h0|⟨b,o,hp,hb,hc⟩
 ·subst h0;simp at hi
 ·exact⟨b,o,hp,hb,List.getElem?_eq_getElem hi,h.2.1 _ (List.getElem_mem hi),(hc i hi).1,(hc i hi).2.1,(hc i hi).2.2.1,(hc i hi).2.2.2⟩
theorem bQ {w:World} {x:Nd} (h:x.fine w) {j:Nat} (hj:j<x.kids.length):∃b o,x.kp=some ⟨b,o,none⟩∧b<w.heap.size∧w.cell? ⟨b,o+j,none⟩=some (.int .i64 (x.kids.getD j 0)):=by
 rcases h.2.2.2.2.2 with h0|⟨b,o,hp,hb,hc⟩
 ·rw [h0] at hj;simp at hj
 ·refine⟨b,o,hp,hb, ?_⟩;rw [hc j hj];simp [List.getD,List.getElem?_eq_getElem hj]
end Go.Proofs.YtjchnliaglecoaaGreatDoor

/- A part of the proof. Conditions: none. -/
set_option maxRecDepth 100000
set_option maxHeartbeats 8000000
namespace Go.Proofs.YtjchnliaglecoaaGreatDoor
open Go Go.RowKit Go.Nodes
theorem Pu (w:World) (p:Option Addr) (c:Nat) (ns:List Nd) (hn:ns.length≤5000) (ha:ay w p ns) (N:Nat) (hN:N≤ns.length) (hv:oY ns N) (n0:Nat) (xR:n0<N):
  Calls Tryz.prog 119 #[.slice p ns.length c,.int .i64 (n0:Int)] w fun e w'=>e=.returned (.int .i64 (kX ns n0))∧Below w.heap.size w w':=by
 have Ha:=hid ha;have Hv:=hid hv;have hN2:(N:Int)≤(ns.length:Int):=af;have hL:(ns.length:Int)≤5000:=af;obtain⟨L,CR⟩:∃L,L=ns.length:=⟨_,rfl⟩;rw [←CR] at hN2 hL ⊢;have HL:=hid CR;clear ha hv CR;go_enter Tryz.func119,Tryz.ntmps119;go_wp2;go_loop [1] (fun nv=>∃k:Nat,nv=.int .i64 k∧k<N∧Hid (∃f,k<f∧Bf ns f k=kX ns n0)) (fun nv=>(intOf nv).toNat)
 case atStart=>exact⟨n0,rfl,xR,n0+1,by omega,by unfold kX;rw [Int.toNat_natCast]⟩
 case round=>
  have XM:=trivial;exact ak2
end Go.Proofs.YtjchnliaglecoaaGreatDoor

/- A part of the proof. Conditions: none. -/
set_option maxRecDepth 100000
set_option maxHeartbeats 8000000
namespace Go.Proofs.YtjchnliaglecoaaGreatDoor
open Go Go.RowKit Go.Nodes
theorem cW {a b:Int} (h:a≠b):(a==b)=false:=by
 cases e:(a==b) with
 |false=>rfl
 |true=>exact absurd (eq_of_beq e) h
theorem EY (w:World) (p:Option Addr) (c:Nat) (ns:List Nd) (hL:(ns.length:Int)≤5000) (ha:ay w p ns) (n:Nat) (hn:n<ns.length) (hk:ns[n].kind≠1∧ns[n].kind≠3∧ns[n].kind≠6∧ns[n].kind≠7∧ns[n].kind≠21∧ns[n].kind≠32):
  Calls Tryz.prog 66 #[.slice p ns.length c,.int .i64 (n:Int)] w fun e w'=>e=.returned (.bool true)∧Below w.heap.size w w':=by
 obtain⟨b,o,rfl,hb,hx,hf,c0,c1,c2,c3⟩:=bh ha hn;have n0:(0:Int)≤(n:Int):=af;have n1:(n:Int)<(ns.length:Int):=af;have e1:=cW hk.1;have e2:=cW hk.2.1;have e3:=cW hk.2.2.1;have e4:=cW hk.2.2.2.1;have e5:=cW hk.2.2.2.2.1;have e6:=cW hk.2.2.2.2.2;clear hk ha hx hf;generalize ns[n]=x at*;generalize ns.length=L at*;generalize x.kind=kx at*;go_enter Tryz.func66,Tryz.ntmps66;exact Pw
theorem I4 (w:World) (p:Option Addr) (c:Nat) (ns:List Nd) (hL:(ns.length:Int)≤5000) (ha:ay w p ns) (n:Nat) (hn:n<ns.length) (hv:oY ns n) (hk:ns[n].kind=6∨ns[n].kind=7) (mG:0<ns[n].kids.length) (gy:∀k∈ns[n].kids,0≤k∧k<n):
  Calls Tryz.prog 66 #[.slice p ns.length c,.int .i64 (n:Int)] w fun e w'=>e=.returned (.bool (decide (kX ns (ns[n].kids.getD 0 0)=17∨kX ns (ns[n].kids.getD 0 0)=21)))∧Below w.heap.size w w':=by
 obtain⟨b,o,hp,hb,hx,hf,c0,c1,c2,c3⟩:=bh ha hn;have n0:(0:Int)≤(n:Int):=af;have n1:(n:Int)<(ns.length:Int):=af;obtain⟨bk,ok,eO,bO,eA⟩:=bQ hf mG;have dA:=gy (ns[n].kids.getD 0 0) PF;obtain⟨z,hz⟩:∃z:Nat,ns[n].kids.getD 0 0=(z:Int):=⟨(ns[n].kids.getD 0 0).toNat,by omega⟩;rw [hz] at eA dA ⊢;rw [Nat.add_zero] at eA;have PG:Hid (∀w',Below w.heap.size w w'→Calls Tryz.prog 119 #[.slice p ns.length c,.int .i64 (z:Int)] w' fun e w2=>e=.returned (.int .i64 (kX ns z))∧Below w'.heap.size w' w2):=hid fun w' h=>Pu w' p c ns af (aF h ha) n af hv z af
 subst hp;obtain⟨q,hq⟩:∃q,q=ns[n].kids.length:=⟨_,rfl⟩;rw [←hq] at c2 mG;rw [eO] at c2;have q1:(0:Int)<(q:Int):=af;clear ha hx hf gy eO hz hq hv;generalize ns[n]=x at*;generalize kX ns (z:Int)=r at*;generalize ns.length=L at*;generalize x.kind=kx at*;by_cases r17:r=17
 ·subst r17;rcases hk with rfl|rfl
  all_goals
   go_enter Tryz.func66,Tryz.ntmps66;go_wp2_with (go_at_call 119;((with_reducible refine(PG.out _ ?_).mono ?_));rotate_left;rintro e w' ⟨rfl,hb⟩;obtain⟨g1,rfl⟩:=aC hb;clear hb)
   all_goals first
    |(go_ret;exact⟨by simp,eK⟩)
    |(repeat (first|exact Below.refl _ _|refine bG ?_ _|refine bI ?_ _ _|refine bA ?_ _))
 ·have apM:=cW r17;by_cases r21:r=21
  ·subst r21;rcases hk with rfl|rfl
   all_goals
    go_enter Tryz.func66,Tryz.ntmps66;go_wp2_with (go_at_call 119;((with_reducible refine(PG.out _ ?_).mono ?_));rotate_left;rintro e w' ⟨rfl,hb⟩;obtain⟨g1,rfl⟩:=aC hb;clear hb)
    all_goals first
     |(go_ret;exact⟨by simp,eK⟩)
     |(repeat (first|exact Below.refl _ _|refine bG ?_ _|refine bI ?_ _ _|refine bA ?_ _))
  ·have apN:=cW r21;have hd:decide (r=17∨r=21)=false:=decide_eq_false af;rw [hd];clear hd r17 r21;rcases hk with rfl|rfl
   all_goals
    go_enter Tryz.func66,Tryz.ntmps66;go_wp2_with (go_at_call 119;((with_reducible refine(PG.out _ ?_).mono ?_));rotate_left;rintro e w' ⟨rfl,hb⟩;obtain⟨g1,rfl⟩:=aC hb;clear hb)
    all_goals first
     |(go_ret;exact⟨rfl,eK⟩)
     |(repeat (first|exact Below.refl _ _|refine bG ?_ _|refine bI ?_ _ _|refine bA ?_ _))
end Go.Proofs.YtjchnliaglecoaaGreatDoor

/- A part of the proof. Conditions: none. -/
set_option maxRecDepth 100000
set_option maxHeartbeats 8000000
namespace Go.Proofs.YtjchnliaglecoaaGreatDoor
open Go Go.RowKit Go.Nodes
def dU (ns:List Nd) (k:Int):Bool:=decide (aq ns k≠10∧aq ns k≠11)
theorem vV {α:Type} (l:List α) (j:Nat) (hj:j+1<l.length):l.dropLast.drop j=l[j]::l.dropLast.drop (j+1):=by
 rw [List.drop_eq_getElem_cons bt];simp
theorem gz {α:Type} (l:List α) (j:Nat) (hj:l.length≤j+1):l.dropLast.drop j=[]:=List.drop_eq_nil_of_le bt
theorem EZ (w:World) (p:Option Addr) (c:Nat) (ns:List Nd) (hL:(ns.length:Int)≤5000) (ha:ay w p ns) (n:Nat) (hn:n<ns.length) (hk:ns[n].kind=3) (cO:(ns[n].kids.length:Int)≤20000) (gy:∀k∈ns[n].kids,0≤k∧k<n):
  Calls Tryz.prog 66 #[.slice p ns.length c,.int .i64 (n:Int)] w fun e w'=>e=.returned (.bool (ns[n].kids.dropLast.all (dU ns)))∧Below w.heap.size w w':=by
 have PI:=trivial;exact acO
end Go.Proofs.YtjchnliaglecoaaGreatDoor

/- A part of the proof. Conditions: none. -/
set_option maxRecDepth 100000
set_option maxHeartbeats 8000000
namespace Go.Proofs.YtjchnliaglecoaaGreatDoor
open Go Go.RowKit Go.Nodes
def nP (ns:List Nd) (x:Nd):Bool:=if Iy.contains x.text.data.toList then decide (aq ns (x.kids.getD 0 0)=15) && gj (bL ns (x.kids.getD 0 0)) else true
theorem AR (w:World) (p:Option Addr) (c:Nat) (ns:List Nd) (hL:(ns.length:Int)≤5000) (ha:ay w p ns) (n:Nat) (hn:n<ns.length) (hk:ns[n].kind=21) (cO:ns[n].kids.length≤20000) (gy:∀k∈ns[n].kids,0≤k∧k<n)
  (dL:Iy.contains ns[n].text.data.toList=true→0<ns[n].kids.length):
  Calls Tryz.prog 66 #[.slice p ns.length c,.int .i64 (n:Int)] w fun e w'=>e=.returned (.bool (nP ns ns[n]))∧Below w.heap.size w w':=by
 obtain⟨b,o,hp,hb,hx,hf,c0,c1,c2,c3⟩:=bh ha hn;subst hp;have n0:(0:Int)≤(n:Int):=af;have n1:(n:Int)<(ns.length:Int):=af;rw [hk] at c0;by_cases EJ:Iy.contains ns[n].text.data.toList=true
 ·have mG:=dL EJ;obtain⟨bk,ok,eO,bO,eA⟩:=bQ hf mG;have dA:=gy (ns[n].kids.getD 0 0) PF;have hB:nP ns ns[n]=(decide (aq ns (ns[n].kids.getD 0 0)=15) && gj (bL ns (ns[n].kids.getD 0 0))):=by unfold nP;rw [if_pos EJ]
  obtain⟨z,hz⟩:∃z:Nat,ns[n].kids.getD 0 0=(z:Int):=⟨(ns[n].kids.getD 0 0).toNat,by omega⟩;rw [hz] at eA dA hB;rw [Nat.add_zero] at eA;have hzl:z<ns.length:=af;obtain⟨b2,o2,Aj,hb2,hx2,hf2,d0,d1,d2,d3⟩:=bh ha hzl;cases Aj;rw [aL hx2,jy hx2] at hB;have Ic:Hid (∀w',Calls Tryz.prog 115 #[.string ns[z].text] w' fun e w2=>e=.returned (.bool (gj ns[z].text.data.toList))∧Below w'.heap.size w' w2):=hid fun w'=>CC _ w'
  have W5:(ns[n].text.toList==[114,101,97,100])=true∨((ns[n].text.toList==[114,101,97,100])=false∧(ns[n].text.toList==[119,114,105,116,101])=true):=by
   rw [ByteArray.toList_eq];simp only [Iy,List.contains_cons,List.contains_nil,Bool.or_false,Bool.or_eq_true] at EJ;cases e:(ns[n].text.data.toList==[114,101,97,100]) with
   |true=>exact .inl rfl
   |false=>rw [e] at EJ;exact .inr ⟨rfl,by simpa using EJ⟩
  have HB:=hid hB;have z0:(0:Int)≤(z:Int):=af;have z1:(z:Int)<(ns.length:Int):=af;obtain⟨q,hq⟩:∃q,q=ns[n].kids.length:=⟨_,rfl⟩;rw [←hq] at c2 mG;rw [eO] at c2;have q1:(0:Int)<(q:Int):=af;clear ha hx hf gy eO hz hq dL hx2 hf2 EJ hB hk cO;generalize nP ns ns[n]=R at*;generalize ns[n]=x at*;generalize ns[z]=y at*;generalize ns.length=L at*;generalize y.kind=ky at*;generalize gj y.text.data.toList=ch at*;by_cases EH:ky=15
  ·subst EH;have HR:Hid (R=ch):=hid (by rw [HB.out];rfl);clear HB;rcases W5 with xg|⟨xg,hw2⟩
   all_goals
    go_enter Tryz.func66,Tryz.ntmps66;go_wp2_with (go_at_call 115;((with_reducible refine(Ic.out _).mono ?_));rintro e w' ⟨rfl,hb⟩;obtain⟨g1,rfl⟩:=aC hb;clear hb);go_ret;exact⟨by rw [HR.out];rfl,dB⟩
  ·have atz:=cW EH;have HR:Hid (R=false):=hid (by rw [HB.out,decide_eq_false EH];rfl);clear HB EH;rcases W5 with xg|⟨xg,hw2⟩
   all_goals
    go_enter Tryz.func66,Tryz.ntmps66;go_wp2_with (go_at_call 115;((with_reducible refine(Ic.out _).mono ?_));rintro e w' ⟨rfl,hb⟩;obtain⟨g1,rfl⟩:=aC hb;clear hb);go_ret;exact⟨by rw [HR.out];rfl,dB⟩
 ·have hB:nP ns ns[n]=true:=by unfold nP;rw [if_neg EJ]
  have xg:(ns[n].text.toList==[114,101,97,100])=false:=by
   rw [ByteArray.toList_eq];cases e:(ns[n].text.data.toList==[114,101,97,100]) with
   |false=>rfl
   |true=>exact absurd (by simp [Iy,eq_of_beq e]) EJ
  have hw2:(ns[n].text.toList==[119,114,105,116,101])=false:=by
   rw [ByteArray.toList_eq];cases e:(ns[n].text.data.toList==[119,114,105,116,101]) with
   |false=>rfl
   |true=>exact absurd (by simp [Iy,eq_of_beq e]) EJ
  rw [hB];clear hB EJ ha hx hf gy dL hk cO;generalize ns[n]=x at*;generalize ns.length=L at*;go_enter Tryz.func66,Tryz.ntmps66;exact Ko
end Go.Proofs.YtjchnliaglecoaaGreatDoor

/- A part of the proof. Conditions: none. -/
set_option maxRecDepth 100000
set_option maxHeartbeats 8000000
namespace Go.Proofs.YtjchnliaglecoaaGreatDoor
open Go Go.RowKit Go.Nodes
theorem FL (w:World) (p:Option Addr) (c:Nat) (ns:List Nd) (hL:(ns.length:Int)≤5000) (ha:ay w p ns) (n:Nat) (hn:n<ns.length) (hk:ns[n].kind=32) (cO:(ns[n].kids.length:Int)≤20000) (gy:∀k∈ns[n].kids,0≤k∧k<n) (bz:(ns[n].kids.length:Int)≤(ns[n].aP:Int)):
  Calls Tryz.prog 66 #[.slice p ns.length c,.int .i64 (n:Int)] w fun e w'=>e=.returned (.bool (decide ((ns[n].kids.map (bL ns)).Nodup)))∧Below w.heap.size w w':=by
 have TC:=trivial;exact acO
end Go.Proofs.YtjchnliaglecoaaGreatDoor

/- A part of the proof. Conditions: none. -/
set_option maxRecDepth 100000
set_option maxHeartbeats 8000000
namespace Go.Proofs.YtjchnliaglecoaaGreatDoor
open Go Go.RowKit Go.Nodes
theorem S0 {s t:ByteArray} (hs:0<s.size) (ht:0<t.size):((s[0].toNat:Int)==(t[0].toNat:Int))=decide (s.data.toList.take 1=t.data.toList.take 1):=by
 have e:∀(u:ByteArray) (h:0<u.size),u.data.toList.take 1=[u[0]]:=fun u h=>by
  have hl:0<u.data.toList.length:=oI;rw [List.take_one,List.head?_eq_getElem?,List.getElem?_eq_getElem hl];exact Gi
 rw [e s hs,e t ht];cases h:((s[0].toNat:Int)==(t[0].toNat:Int)) with
 |true=>
  have:=eq_of_beq h;have h2:s[0]=t[0]:=UInt8.toNat_inj.1 af;rw [h2,decide_eq_true rfl]
 |false=>
  rw [decide_eq_false];intro h2;rw [List.cons.inj h2|>.1] at h;simp at h
theorem AU (w:World) (p:Option Addr) (c:Nat) (ns:List Nd) (hL:(ns.length:Int)≤5000) (ha:ay w p ns) (n:Nat) (hn:n<ns.length) (hk:ns[n].kind=1) (cO:(ns[n].kids.length:Int)≤20000) (gy:∀k∈ns[n].kids,0≤k∧k<n) (dL:0<ns[n].kids.length) (ke:∀k∈ns[n].kids.dropLast,0<(bL ns k).length) (bz:(ns[n].kids.length:Int)≤(ns[n].aP:Int)):
  Calls Tryz.prog 66 #[.slice p ns.length c,.int .i64 (n:Int)] w fun e w'=>e=.returned (.bool (decide ((ns[n].kids.dropLast.map (fun k=>(bL ns k).take 1)).Nodup)))∧Below w.heap.size w w':=by
 obtain⟨b,o,hp,hb,hx,hf,c0,c1,c2,c3⟩:=bh ha hn;subst hp;have n0:(0:Int)≤(n:Int):=af;have n1:(n:Int)<(ns.length:Int):=af;have ve:=hid gy;have Htx:=hid ke;have Hf:=hid hf;have Ha:=hid ha;have hns:ns.length≤5000:=af;obtain⟨L,CR⟩:∃L,L=ns.length:=⟨_,rfl⟩;rw [←CR] at hL n1 hns ⊢;rw [hk] at c0;have HL:=hid CR;clear hx hf gy ha hk CR ke;generalize ns[n]=x at*;obtain⟨q,hq⟩:∃q,q=x.kids.length:=⟨_,rfl⟩;rw [←hq] at c2 cO bz dL;obtain⟨r,hr⟩:∃r,q=r+1:=⟨q - 1,by omega⟩;have hr1:(q:Int) - 1=(r:Int):=af;have hr2:(r:Int)≤(x.aP:Int):=af;have hr3:(1:Int)≤(q:Int):=af;have Hr:=hid hr;clear hr;have Hq:=hid hq;clear hq;go_enter Tryz.func66,Tryz.ntmps66;go_wp2;go_loopw [139] (fun iv wr=>∃(i:Nat) (g:gQ),iv=.int .i64 i∧i≤r∧wr=grow (w.alloc (.cells #[Value.int IntKind.i64 1,Value.string x.text,Value.slice x.kp q x.aP,Value.int IntKind.i64 x.place] 56)) g∧Hid (((x.kids.take i).map (fun k=>(bL ns k).take 1)).Nodup)) (fun iv _=>r - (intOf iv).toNat)
 case atStart=>exact⟨0,_,rfl,by omega,(eZ _).symm,by simp [Hid]⟩
 case round=>
  obtain⟨i,g,rfl,hi,rfl,hR⟩:=hrel;by_cases hiq:i<r
  ·have ji:i<x.kids.length:=by have:=Hq.out;have:=Hr.out;omega
   obtain⟨bk,ok,eO,bO,eA⟩:=bQ Hf.out ji;have fR:x.kids.getD i 0=x.kids[i]:=Fu;have dA:=ve.out x.kids[i] (List.getElem_mem ji);rw [fR] at eA;obtain⟨z,hz⟩:∃z:Nat,x.kids[i]=(z:Int):=⟨(x.kids[i]).toNat,by omega⟩;rw [hz] at dA eA;have hzl:z<ns.length:=af;obtain⟨b2,o2,Aj,hb2,hx2,hf2,d0,d1,d2,d3⟩:=bh Ha.out hzl;cases Aj;have hti:=jy hx2;have z0:(0:Int)≤(z:Int):=af;have z1:(z:Int)<(L:Int):=nw;have i0:(0:Int)≤(i:Int):=af;have i1:(i:Int)<(r:Int):=af;have i2:(i:Int)≤(x.aP:Int):=af;have gM:x.kids.take (i+1)=x.kids.take i++[(z:Int)]:=EP;have hs1:0<ns[z].text.size:=by
    have h2:(z:Int)∈x.kids.dropLast:=by
     rw [←hz];have h3:i<x.kids.dropLast.length:=S3;have h4:x.kids.dropLast[i]=x.kids[i]:=ak;rw [←h4];exact List.getElem_mem h3
    have:=Htx.out _ h2;rw [hti] at this;simpa using this
   have s1a:(0:Int)<(ns[z].text.size:Int):=af;have Hti:=hid hti;have lR:=hid gM;have XG:=hid eO;have Hbk:=hid bO;rw [eO] at c2 ⊢;clear hti gM eO fR hx2 hf2 hz ji d0 d2 d3;generalize ns[z].text=s1 at*;go_wp2;go_loopw [149] (fun jv wr=>∃(j:Nat) (g2:gQ),jv=.int .i64 j∧j≤i∧wr=grow (w.alloc (.cells #[Value.int IntKind.i64 1,Value.string x.text,Value.slice (some ⟨bk,ok,none⟩) q x.aP,Value.int IntKind.i64 x.place] 56)) g2∧Hid (∀j':Nat,j'<j→(bL ns (x.kids.getD j' 0)).take 1≠s1.data.toList.take 1)) (fun jv _=>i - (intOf jv).toNat)
   case atStart=>exact⟨0,g,rfl,by omega,rfl,fun j' h=>by omega⟩
   case round=>
    obtain⟨j,g2,rfl,hj,rfl,hJ⟩:=hrel;by_cases RL:j<i
    ·have pE:j<x.kids.length:=by have:=Hq.out;have:=Hr.out;omega
     obtain⟨bk',ok',F9,NI,hcj⟩:=bQ Hf.out pE;have fR:x.kids.getD j 0=x.kids[j]:=S4;have Ga:=ve.out x.kids[j] (List.getElem_mem pE);rw [XG.out] at F9;cases F9;rw [fR] at hcj;obtain⟨y,hy⟩:∃y:Nat,x.kids[j]=(y:Int):=⟨(x.kids[j]).toNat,by omega⟩;rw [hy] at Ga hcj;have DJ:y<ns.length:=af;obtain⟨b3,o3,Xl,hb3,hx3,hf3,f0,f1,f2,f3⟩:=bh Ha.out DJ;cases Xl;have htj:=jy hx3;have y0:(0:Int)≤(y:Int):=af;have y1:(y:Int)<(L:Int):=nw;have j0:(0:Int)≤(j:Int):=af;have j1:(j:Int)<(i:Int):=af;have hs2:0<ns[y].text.size:=by
      have h2:(y:Int)∈x.kids.dropLast:=by
       rw [←hy];have h3:j<x.kids.dropLast.length:=S3;have h4:x.kids.dropLast[j]=x.kids[j]:=ak;rw [←h4];exact List.getElem_mem h3
      have:=Htx.out _ h2;rw [htj] at this;simpa using this
     have s2a:(0:Int)<(ns[y].text.size:Int):=af;have Htj:=hid htj;have Hgj:=hid (fR.trans hy);clear htj fR hx3 hf3 hy f0 f2 f3 NI;generalize ns[y].text=s2 at*;have hfe:=hid (S0 hs1 hs2);obtain⟨b1,arw⟩:∃b1,(s1[0]'hs1).toNat=b1:=⟨_,rfl⟩;obtain⟨b2',arx⟩:∃b2,(s2[0]'hs2).toNat=b2:=⟨_,rfl⟩;have ahF:=hfe.out;rw [arw,arx] at ahF;have Hfe:=hid ahF;clear hfe ahF;cases he:((b1:Int)==(b2':Int)) with
     |true=>
      have hno:¬((x.kids.dropLast.map (fun k=>(bL ns k).take 1)).Nodup):=fun h=>by
       have h2:(x.kids.dropLast.map (fun k=>(bL ns k).take 1))[i]?=(x.kids.dropLast.map (fun k=>(bL ns k).take 1))[j]?:=by
        have e1:x.kids[i]?=some (z:Int):=by
         have:=lR.out;have h3:=congrArg (fun l=>l[i]?) this;simp only [List.getElem?_take_of_lt (Nat.lt_succ_self i)] at h3;rw [h3,List.getElem?_append_right bt];simp [show min i x.kids.length=i by have:=Hq.out;have:=Hr.out;omega]
        have e2:x.kids[j]?=some (y:Int):=by
         exact S5
        have d1:x.kids.dropLast[i]?=x.kids[i]?:=by rw [List.dropLast_eq_take,List.getElem?_take_of_lt (by have:=Hq.out;have:=Hr.out;omega)]
        have d2:x.kids.dropLast[j]?=x.kids[j]?:=by rw [List.dropLast_eq_take,List.getElem?_take_of_lt (by have:=Hq.out;have:=Hr.out;omega)]
        rw [List.getElem?_map,List.getElem?_map,d1,d2,e1,e2];simp only [Option.map_some];rw [Hti.out,Htj.out];congr 1;have:=Hfe.out;rw [he] at this;exact of_decide_eq_true this.symm
       have h4:=(List.getElem?_inj S3 h).1 h2;omega
      have HD:Hid (decide ((x.kids.dropLast.map (fun k=>(bL ns k).take 1)).Nodup)=false):=hid (decide_eq_false hno);clear hno;go_wp2;go_quiet (fail);exact S6
     |false=>
      have Hne:Hid (∀j':Nat,j'<j+1→(bL ns (x.kids.getD j' 0)).take 1≠s1.data.toList.take 1):=hid fun j' h=>by
       rcases Nat.lt_or_ge j' j with h2|h2
       ·exact hJ.out j' h2
       ·obtain rfl:j'=j:=by omega
        rw [Hgj.out,Htj.out];intro e;have h5:=Hfe.out;rw [he] at h5;exact absurd (decide_eq_true e.symm) (by rw [←h5];simp)
      exact S7
    ·obtain rfl:j=i:=by omega
     have HN:Hid (((x.kids.take (j+1)).map (fun k=>(bL ns k).take 1)).Nodup):=hid (by
      rw [lR.out,List.map_append,List.map_cons,List.map_nil,Hti.out,List.nodup_append];refine⟨hR.out,by simp,fun a ha b' hb' e=>?_⟩;simp at hb';subst hb';subst e;obtain⟨k,r7,hk2⟩:=List.mem_map.1 ha;obtain⟨j',hj',hk3⟩:=List.mem_iff_getElem.1 r7;rw [List.length_take] at hj';rw [List.getElem_take] at hk3;refine hJ.out j' af ?_;rw [List.getD,List.getElem?_eq_getElem af,Option.getD_some,hk3];exact hk2)
     exact S8
  ·obtain rfl:i=r:=by omega
   have hr:=hR.out;rw [show x.kids.take i=x.kids.dropLast by rw [List.dropLast_eq_take];congr 1;have:=Hq.out;have:=Hr.out;omega] at hr;have HD:Hid (decide ((x.kids.dropLast.map (fun k=>(bL ns k).take 1)).Nodup)=true):=hid (decide_eq_true hr);have j1:¬(i:Int)<(i:Int):=af;clear hR hr;exact S6
end Go.Proofs.YtjchnliaglecoaaGreatDoor

/- A part of the proof. Conditions: none. -/
set_option maxRecDepth 100000
set_option maxHeartbeats 8000000
namespace Go.Proofs.YtjchnliaglecoaaGreatDoor
open Go Go.RowKit Go.Nodes
structure Rm (ns:List Nd) (i:Nat) (x:Nd):Prop where
 k1:1≤x.kind
 Q4:x.kind≤36
 kids:∀k∈x.kids,0≤k∧k<i
 fits:fJ (dh x.kind.toNat) (cR ns x.kids)=true
 text:ru x.kind.toNat x.text.data.toList x.kids.length=true
theorem FK {k:Nat} (h:pL k 104=true):k=2:=Nat.eq_of_beq_eq_true h
theorem Nr {ks:List Nat} (h:fJ [104,42,98] ks=true):∀k∈ks.dropLast,k=2:=by
 unfold fJ at h;rw [if_neg aj] at h;split at h
 ·cases h
 ·split at h
  ·cases h
  ·rw [show([104,42,98]:List UInt8).length - 2*([104,42,98]:List UInt8).count 42=1 by decide] at h;have h2:((ks.take (ks.length - 1)).all (fun k=>pL k 104) && mV (ks.length - 1) [42,98] (ks.drop (ks.length - 1)))=true:=h;rw [Bool.and_eq_true] at h2;intro k hk;rw [List.dropLast_eq_take] at hk;exact FK (List.all_eq_true.1 h2.1 k hk)
theorem Ns {l:List UInt8} (h:ny l=true):0<l.length:=by
 cases l with
 |nil=>cases h
 |cons a l=>simp
theorem adn {l:List UInt8} (h:Iy.contains l=true):1≤bn l:=by
 simp only [Iy,List.contains_cons,List.contains_nil,Bool.or_false,Bool.or_eq_true] at h;rcases h with h|h
 ·rw [eq_of_beq h];decide
 ·rw [eq_of_beq h];decide
def gS (ns:List Nd):Prop:=∀x∈ns,x.kids.length≤x.aP
theorem BK {ns:List Nd} {n:Nat} {x:Nd} (hx:Rm ns n x) (hv:oY ns n) (hn:n≤ns.length) (hk:x.kind=1):∀k∈x.kids.dropLast,0<(bL ns k).length:=by
 intro k hk2;have hf:=hx.fits;rw [hk] at hf;have h1:=Nr hf (aq ns k).toNat (by
  unfold cR;rw [←List.map_dropLast];exact List.mem_map.2 ⟨k,hk2,rfl⟩)
 have dA:=hx.kids k (List.dropLast_subset _ hk2);obtain⟨z,rfl⟩:∃z:Nat,k=(z:Int):=⟨k.toNat,by omega⟩;have hzl:z<ns.length:=af;have hg:ns[z]?=some ns[z]:=List.getElem?_eq_getElem hzl;have hvz:=hv z _ af hg;rw [aL hg] at h1;rw [jy hg];have:=hvz.text;rw [h1] at this;exact Ns this
theorem Nn (w:World) (p:Option Addr) (c:Nat) (ns:List Nd) (hs:Small ns) (hc:gS ns) (ha:ay w p ns) (n:Nat) (hn:n<ns.length) (hv:oY ns n) (hx:Rm ns n ns[n]):
  Calls Tryz.prog 66 #[.slice p ns.length c,.int .i64 (n:Int)] w fun e w'=>e=.returned (.bool (mI ns ns[n]))∧Below w.heap.size w w':=by
 have hL:(ns.length:Int)≤5000:=by have:=hs.1;omega
 have cO:=(hs.2 ns[n] (List.getElem_mem hn)).1;have bz:=hc ns[n] (List.getElem_mem hn);unfold mI;by_cases h3:ns[n].kind=3
 ·rw [if_pos h3];exact EZ w p c ns hL ha n hn h3 af hx.kids
 rw [if_neg h3];by_cases h67:ns[n].kind=6∨ns[n].kind=7
 ·rw [if_pos h67];exact I4 w p c ns hL ha n hn hv h67 (tZ hx.fits af) hx.kids
 rw [if_neg h67];by_cases Nt:ns[n].kind=21
 ·rw [if_pos Nt];refine AR w p c ns hL ha n hn Nt cO hx.kids fun h=>?_
  have:=hx.text;rw [Nt] at this;have h2:bn ns[n].text.data.toList=(ns[n].kids.length:Int):=of_decide_eq_true this;have:=adn h;omega
 rw [if_neg Nt];by_cases Iz:ns[n].kind=32
 ·rw [if_pos Iz];exact FL w p c ns hL ha n hn Iz af hx.kids af
 rw [if_neg Iz];by_cases h1:ns[n].kind=1
 ·rw [if_pos h1];exact AU w p c ns hL ha n hn h1 af hx.kids (tZ hx.fits af) (BK hx hv af h1) af
 rw [if_neg h1];exact EY w p c ns hL ha n hn ⟨h1,h3,by omega,by omega,Nt,Iz⟩
end Go.Proofs.YtjchnliaglecoaaGreatDoor

/- A part of the proof. Conditions: none. -/
set_option maxRecDepth 100000
set_option maxHeartbeats 8000000
namespace Go.Proofs.YtjchnliaglecoaaGreatDoor
open Go Go.RowKit Go.Nodes
theorem bR {w w':World} {B:Nat} {e:TypeId} {size:Nat} {v:Value} {n:Nat} {xs:List Value} (h:w.ownsRow B e size v n xs) (hb:Below w.heap.size w w'):w'.ownsRow B e size v n xs:=by
 obtain⟨h1,h2⟩:=h;refine⟨h1, ?_⟩;rcases h2 with h2|⟨g,cap,cur,hv,hg,hh,hr⟩
 ·exact Or.inl h2
 ·exact Or.inr ⟨g,cap,cur,hv,hg,by rw [hb.block g (Array.getElem?_eq_some_iff.1 hh).1];exact hh,hr⟩
def Ints (B:Nat) (w:World) (v:Value) (l:List Int):Prop:=w.ownsRow B 3 1 v l.length (l.map (Value.int .i64))
theorem di {P:Program} (w:World) (base:Nat) (t ty e:TypeId) (i:TypeInfo) (z:Value) (size bytes:Nat) (ht:P.underlying t=some (.slice e)) (hi:P.info? e=some i) (hz:i.zero=some z)
  (hsize:i.size=size) (hby:i.bytes=bytes) (hzs:z.cells.size=size) (hsz:0<size) (v:Value) (n:Nat) (xs:List Value) (hown:w.ownsRow base e size v n xs)
  (a:Addr) (m c:Nat) (hm:0<m) (news:List Value) (hl:news.length=m*size) (hnews:∀j u,news[j]?=some u→w.cell? (a.add j)=some u) (h1:∀u∈news,u.oneCell'=true)
  (h63:n+m≤maxLen) (hbytes:(n+m)*bytes≤140737488355328) (hbase:base≤w.heap.size):
  ∃v' w',(Builtin.append_ #[t,t] ty #[v,.slice (some a) m c]).run P w=.ok v' w'∧w'.ownsRow base e size v' (n+m) (xs++news)∧w.grownBy w' v.ownBlock∧(v'.ownBlock=v.ownBlock∨v'.ownBlock=some w.heap.size):=by
 obtain⟨v',w',hr,h2,h3,h4⟩:=run_append_own (P:=P) w base t ty e i z size bytes ht hi hz hsize hby hzs hsz v n xs hown a m c news hl hnews h1 h63 hbytes hbase;refine⟨v',w',hr,h2,h3, ?_⟩;subst hsize;subst hby
 rcases hown.2 with⟨rfl,rfl⟩|⟨g,cap,cur,rfl,hbg,hg,hnc,hcm,hcs,gM⟩
 ·have hr2:=run_append_nil (P:=P) w t ty e i z ht hi hz a m c news hl hnews af (by unfold maxLen at h63;omega) (by have hb:=hbytes;simp only [Nat.zero_add] at hb;omega);rw [hr] at hr2;cases hr2;exact .inr rfl
 ·by_cases hroom:n+m≤cap
  ·have mG:n*i.size+news.length≤cur.size:=by rw [hl,hcs,←Nat.add_mul];exact Nat.mul_le_mul_right _ hroom
   have hr2:=run_append_room (P:=P) w t ty e i ht hi g n cap cur hg a m c news hl hnews h1 hroom mG;rw [hr] at hr2;cases hr2;exact .inl rfl
  ·have holds:∀j u,xs[j]?=some u→w.cell? ((⟨g,0,none⟩:Addr).add j)=some u:=hown.cells (g:=g) rfl;have hr2:=run_append_grow (P:=P) w t ty e i z ht hi hz ⟨g,0,none⟩ n cap xs hown.1 holds a m c news hl hnews af (by unfold maxLen at h63;omega) (growslice_fits af hbytes);rw [hr] at hr2;cases hr2;exact .inr rfl
theorem cT {P:Program} (w:World) {ops:Array Oper} {rest:List Oper} {o:Oper} {a:Act} {Q:Exit→Act→World→Prop} (hgd:o.guard=none) (s x:Operand) (t:TypeId)
  (ho:o.op=.call {callee:=.builtin .append,args:=#[s,x],argTypes:=#[t,t]})
  (base:Nat) (e:TypeId) (i:TypeInfo) (z:Value) (size bytes:Nat) (ht:P.underlying t=some (.slice e)) (hi:P.info? e=some i) (hz:i.zero=some z)
  (hsize:i.size=size) (hby:i.bytes=bytes) (hzs:z.cells.size=size) (hsz:0<size) (v:Value) (n:Nat) (xs:List Value) (hs:a.eval s=v) (hown:w.ownsRow base e size v n xs)
  (ad:Addr) (m c:Nat) (hm:0<m) (news:List Value) (hx:a.eval x=.slice (some ad) m c) (hl:news.length=m*size) (hnews:∀j u,news[j]?=some u→w.cell? (ad.add j)=some u) (h1:∀u∈news,u.oneCell'=true)
  (h63:n+m≤maxLen) (hbytes:(n+m)*bytes≤140737488355328) (hbase:base≤w.heap.size)
  (h:∀v' w',w'.ownsRow base e size v' (n+m) (xs++news)→w.grownBy w' v.ownBlock→(v'.ownBlock=v.ownBlock∨v'.ownBlock=some w.heap.size)→wpList P ops Q rest (a.put o.dst v') w'):wpList P ops Q (o::rest) a w:=
 wpList_plain hgd fun _ hK=>by
  obtain⟨v',w',hr,h2,h3,h4⟩:=di (P:=P) w base t o.type e i z size bytes ht hi hz hsize hby hzs hsz v n xs hown ad m c hm news hl hnews h1 h63 hbytes hbase;unfold Oper.wp execOp;simp only [ho,resolve,invoke,builtin,Sem.run_bind,Sem.run_pure,Result.andThen_ok,List.map_toArray,List.map_cons,List.map_nil,hs,hx,hr];exact hK _ _ (h v' w' h2 h3 h4)
theorem lX {w:World} {ops:Array Oper} {rest:List Oper} {o:Oper} {a:Act} {Q:Exit→Act→World→Prop} (hgd:o.guard=none) (s x:Operand)
  (ho:o.op=.call {callee:=.builtin .append,args:=#[s,x],argTypes:=#[26,26]}) (base:Nat) (v:Value) (xs:List Int) (y:Int) (g c:Nat) (hs:a.eval s=v) (hown:Ints base w v xs) (hx:a.eval x=.slice (some ⟨g,0,none⟩) 1 c) (hc:w.cell? ⟨g,0,none⟩=some (.int .i64 y))
  (hl:xs.length≤1000000) (hbase:base≤w.heap.size)
  (h:∀v' w',Ints base w' v' (xs++[y])→w.grownBy w' v.ownBlock→(v'.ownBlock=v.ownBlock∨v'.ownBlock=some w.heap.size)→wpList Tryz.prog ops Q rest (a.put o.dst v') w'):wpList Tryz.prog ops Q (o::rest) a w:=by
 obtain⟨iI,Ao,Ap,Aq,Ar⟩:=info_parts Tryz.rB;refine cT w hgd s x 26 ho base 3 iI (.int .i64 0) 1 8 Tryz.underlying26 Ao Ap Aq Ar rfl aj v xs.length (xs.map (Value.int .i64)) hs hown ⟨g,0,none⟩ 1 c aj [.int .i64 y] hx ak ?_ ?_ lf af hbase fun v' w' h1 h2 h3=>h v' w' ?_ h2 h3
 ·intro j q hj;cases j with
  |zero=>simp at hj;subst hj;exact hc
  |succ j=>simp at hj
 ·intro q hq;simp at hq;subst hq;rfl
 ·unfold Ints;rw [List.length_append,List.map_append];exact h1
theorem Ints.out {B:Nat} {w:World} {v:Value} {l:List Int} (h:Ints B w v l):∃p c,v=.slice p l.length c∧dW w p l:=by
 rcases h.2 with⟨rfl,h0⟩|⟨g,cap,cur,rfl,_,hh,hn,hc,hs,ht⟩
 ·have:l=[]:=by simpa using h0
  subst this;exact⟨none,0,rfl,.inl rfl⟩
 ·refine⟨_,_,rfl,.inr ⟨g,0,rfl,(Array.getElem?_eq_some_iff.1 hh).1,fun i hi=>?_⟩⟩;have h1:(cur.toList.take (l.length*1))[i]?=some (.int .i64 l[i]):=by rw [ht];simp
  rw [List.getElem?_take_of_lt af] at h1;simp only [World.cell?,hh,Nat.zero_add];simpa using h1
end Go.Proofs.YtjchnliaglecoaaGreatDoor
