/- A part of the proof. Conditions: none. -/
import Derived.Test.YtjchnliaglecoaaGreatDoorZz
import Derived.Test.YtjchnliaglecoaaGreatDoorMoX
import Derived.Test.YtjchnliaglecoaaGreatDoorSvX
import Derived.Test.YtjchnliaglecoaaGreatDoorFpX
import Derived.Deep.RegionHeld3
import Derived.Deep.RegionWith
import Derived.Test.YtjchnliaglecoaaGreatDoorAmSX
import Derived.Defers
import Derived.Recover
import Derived.Laws.Pointers
import Derived.Laws.Rows
set_option linter.unusedVariables false
set_option linter.unusedSimpArgs false
set_option maxRecDepth 100000
set_option maxHeartbeats 8000000
namespace Go.Proofs.YtjchnliaglecoaaGreatDoor
open Go Go.RowKit Go.Nodes
theorem KD (w:World) (p:Option Addr) (c:Nat) (ns:List Nd) (hL0:(ns.length:Int)≤5000) (ha:ay w p ns) (N:Nat) (hN:N≤ns.length) (hv:oY ns N) (text:ByteArray) (kp:Option Addr) (aP:Nat) (kids:List Int) (place:Int) (hf:dW w kp kids) (dL:0<kids.length) (gy:∀k∈kids,0≤k∧k<N):
  Calls Tryz.prog 142 #[.slice p ns.length c,LA ⟨6,text,kp,aP,kids,place⟩] w fun e w'=>e=dI (decide (kX ns (kids.getD 0 0)=17∨kX ns (kids.getD 0 0)=21))∧Below w.heap.size w w':=by
 exact amH
theorem KE (w:World) (p:Option Addr) (c:Nat) (ns:List Nd) (hL0:(ns.length:Int)≤5000) (ha:ay w p ns) (N:Nat) (hN:N≤ns.length) (hv:oY ns N) (text:ByteArray) (kp:Option Addr) (aP:Nat) (kids:List Int) (place:Int) (hf:dW w kp kids) (dL:0<kids.length) (gy:∀k∈kids,0≤k∧k<N):
  Calls Tryz.prog 142 #[.slice p ns.length c,LA ⟨7,text,kp,aP,kids,place⟩] w fun e w'=>e=dI (decide (kX ns (kids.getD 0 0)=17∨kX ns (kids.getD 0 0)=21))∧Below w.heap.size w w':=by
 exact amH
def rL (ns:List Nd) (n:Int):ByteArray:=match ns[n.toNat]? with
 |some x=>x.text
 |none=>ByteArray.empty
theorem s8 (ns:List Nd) (n:Int):(rL ns n).data.toList=bL ns n:=by
 unfold rL bL;cases ns[n.toNat]?<;>rfl
def Ie (ns:List Nd) (text:ByteArray) (kids:List Int):Bool:=if Iy.contains text.data.toList then decide (aq ns (kids.getD 0 0)=15) && gj (bL ns (kids.getD 0 0)) else true
theorem Ej (w:World) (p:Option Addr) (c:Nat) (ns:List Nd) (hL0:(ns.length:Int)≤5000) (hs:Small ns) (ha:ay w p ns) (hl:bZ w) (N:Nat) (hN:N≤ns.length) (text:ByteArray) (vT:text.size≤20000) (kp:Option Addr) (aP:Nat) (kids:List Int) (place:Int) (hf:dW w kp kids) (gy:∀k∈kids,0≤k∧k<N)
  (dL:Iy.contains text.data.toList=true→0<kids.length):
  Calls Tryz.prog 142 #[.slice p ns.length c,LA ⟨21,text,kp,aP,kids,place⟩] w fun e w'=>e=dI (Ie ns text kids)∧Below w.heap.size w w':=by
 have OP:Hid (∀W,Below w.heap.size w W→Calls Tryz.prog 182 #[.string text,.string ⟨#[114,101,97,100,32,119,114,105,116,101]⟩] W fun e w'=>e=.returned (.bool (Iy.contains text.data.toList))∧Below W.heap.size W w'):=hid fun W hW=>ajL text af W (hl.later hW)
 unfold Ie LA;simp only;by_cases EJ:Iy.contains text.data.toList=true
 ·have mG:=dL EJ;rcases hf with ix|⟨bk,ok,rfl,bO,eA⟩
  ·subst ix;simp at mG
  replace eA:=eA 0 mG;have dA:=gy (kids.getD 0 0) PF;obtain⟨z,hz⟩:∃z:Nat,kids.getD 0 0=(z:Int):=⟨(kids.getD 0 0).toNat,by omega⟩;rw [show kids[0]=(z:Int) by rw [←hz,List.getD,List.getElem?_eq_getElem mG];rfl,Nat.add_zero] at eA;rw [hz] at dA ⊢;rw [if_pos EJ];rw [EJ] at OP;have hzl:z<ns.length:=af;obtain⟨b2,o2,rfl,hb2,hx2,hf2,d0,d1,d2,d3⟩:=bh ha hzl;have hsz:=(hs.2 ns[z] (List.getElem_mem hzl)).2;rw [aL hx2,jy hx2];have Ic:Hid (∀W,Below w.heap.size w W→Calls Tryz.prog 186 #[.string ns[z].text] W fun e w2=>e=.returned (.bool (gj ns[z].text.data.toList))∧Below W.heap.size W w2):=hid fun W hW=>by
   have h:=wT ns[z].text af W (hl.later hW);rw [GR] at h;exact h
  have z0:(0:Int)≤(z:Int):=af;have z1:(z:Int)<(ns.length:Int):=af;obtain⟨q,hq⟩:∃q,q=kids.length:=⟨_,rfl⟩;rw [←hq] at mG ⊢;have q1:(0:Int)<(q:Int):=af;clear ha gy hz hq dL hx2 hf2 EJ hl hs hsz d2 d3;generalize ns[z]=y at*;generalize ns.length=L at*;generalize y.kind=ky at*;generalize gj y.text.data.toList=ch at*;by_cases EH:ky=15
  ·subst EH;simp only [decide_true,Bool.true_and];cases ch with
   |true=>
    go_enter Tryz.func142,Tryz.ntmps142;go_wp2_with (first
     |(go_at_call 182;((with_reducible refine(OP.out _ dB).mono ?_));rintro e w' ⟨rfl,hb⟩;obtain⟨g1,rfl⟩:=aC hb;clear hb)
     |(go_at_call 186;((with_reducible refine(Ic.out _ dB).mono ?_));rintro e w' ⟨rfl,hb⟩;obtain⟨g2,rfl⟩:=aC hb;clear hb)
     |(go_at_call 139;((with_reducible refine(eM _).mono ?_));rintro e w' ⟨rfl,hw⟩;rw [hw];clear hw w'))
    exact Uy
   |false=>
    go_enter Tryz.func142,Tryz.ntmps142;go_wp2_with (first
     |(go_at_call 182;((with_reducible refine(OP.out _ dB).mono ?_));rintro e w' ⟨rfl,hb⟩;obtain⟨g1,rfl⟩:=aC hb;clear hb)
     |(go_at_call 186;((with_reducible refine(Ic.out _ dB).mono ?_));rintro e w' ⟨rfl,hb⟩;obtain⟨g2,rfl⟩:=aC hb;clear hb)
     |(go_at_call 139;((with_reducible refine(jF _).mono ?_));rintro e w' ⟨rfl,hw⟩;rw [hw];clear hw w'))
    exact Uz
  ·have atz:=cW EH;rw [decide_eq_false EH,Bool.false_and];clear EH;go_enter Tryz.func142,Tryz.ntmps142;go_wp2_with (first
    |(go_at_call 182;((with_reducible refine(OP.out _ dB).mono ?_));rintro e w' ⟨rfl,hb⟩;obtain⟨g1,rfl⟩:=aC hb;clear hb)
    |(go_at_call 139;((with_reducible refine(jF _).mono ?_));rintro e w' ⟨rfl,hw⟩;rw [hw];clear hw w'))
   exact Uz
 ·rw [if_neg EJ];rw [show Iy.contains text.data.toList=false by simpa using EJ] at OP;clear EJ ha gy dL hf hl;generalize ns.length=L at*;generalize kids.length=q at*;go_enter Tryz.func142,Tryz.ntmps142;go_wp2_with (go_at_call 182;((with_reducible refine(OP.out _ dB).mono ?_));rintro e w' ⟨rfl,hb⟩;obtain⟨g1,rfl⟩:=aC hb;clear hb);exact Uy
theorem Ig {w W:World} {p kp:Option Addr} {ns:List Nd} {kids:List Int} (ha:ay w p ns) (hf:dW w kp kids) (hW:Below w.heap.size w W) (N:Nat) (hN:N≤ns.length) (l:List Int) (hp:l<+:kids) (gy:∀k∈l,0≤k∧k<N):El W p kp ns.length (l.map (rL ns)):=by
 intro i t hi;rw [List.getElem?_map] at hi;cases hg:l[i]? with
 |none=>rw [hg] at hi;cases hi
 |some k=>
  rw [hg] at hi;simp only [Option.map_some,Option.some.injEq] at hi;obtain⟨ji,hgk⟩:=List.getElem?_eq_some_iff.1 hg;have AJ:=gy k (List.mem_of_getElem? hg);obtain⟨z,rfl⟩:∃z:Nat,k=(z:Int):=⟨k.toNat,by omega⟩;have hzl:z<ns.length:=af;obtain⟨b2,o2,rfl,hb2,hx2,hf2,d0,d1,d2,d3⟩:=bh ha hzl;have hlk:=hp.length_le;rcases hf with ix|⟨bk,ok,rfl,bO,eA⟩
  ·subst ix;simp at hlk;subst hlk;simp at ji
  have RA:=eA i af;rw [show kids[i]'af=(z:Int) by rw [←hgk];obtain⟨r,hr⟩:=hp;subst hr;simp [List.getElem_append,ji]] at RA;refine⟨b2,o2,bk,ok,z,rfl,rfl,by have:=hW.size;omega,by have:=hW.size;omega,hzl,(hW.cell (p:=⟨bk,ok+i,none⟩) bO).trans RA, ?_⟩;rw [←hi];unfold rL;rw [Int.toNat_natCast,hx2];exact(hW.cell (p:=⟨b2,o2+z*4+1,none⟩) hb2).trans d1
theorem Ac {ns:List Nd} (hs:Small ns) (k:Int):(rL ns k).size≤20000:=by
 unfold rL;cases h:ns[k.toNat]? with
 |none=>simp
 |some x=>exact(hs.2 x (List.mem_of_getElem? h)).2
theorem KF (w:World) (p:Option Addr) (c:Nat) (ns:List Nd) (hL0:(ns.length:Int)≤5000) (hs:Small ns) (ha:ay w p ns) (N:Nat) (hN:N≤ns.length) (text:ByteArray) (kp:Option Addr) (aP:Nat) (kids:List Int) (place:Int) (hf:dW w kp kids) (cO:(kids.length:Int)≤20000) (gy:∀k∈kids,0≤k∧k<N):
  Calls Tryz.prog 142 #[.slice p ns.length c,LA ⟨32,text,kp,aP,kids,place⟩] w fun e w'=>e=dI (decide ((kids.map (bL ns)).Nodup))∧Below w.heap.size w w':=by
 unfold LA;simp only;have Hun:Hid (∀W,Below w.heap.size w W→Calls Tryz.prog 187 #[.slice p ns.length c,.slice kp kids.length aP,.func (.func 188) #[] #[]] W fun e w'=>e=.returned (.bool (decide ((kids.map (bL ns)).Nodup)))∧Below W.heap.size W w'):=hid fun W hW=>by
  have h:=KJ W p kp ns.length c kids.length aP hL0 cO (kids.map (rL ns)) ak (Ig ha hf hW N hN kids (List.prefix_refl _) gy) (fun s h=>by obtain⟨k,_,rfl⟩:=List.mem_map.1 h;exact Ac hs k);rw [List.map_map] at h;rw [show((fun s:ByteArray=>s.data.toList) ∘ rL ns)=bL ns from funext fun k=>s8 ns k] at h;exact h
 clear ha hf gy hs;generalize decide ((kids.map (bL ns)).Nodup)=R at*;generalize ns.length=L at*;generalize kids.length=q at*;exact aek
theorem Ek (w:World) (p:Option Addr) (c:Nat) (ns:List Nd) (hL0:(ns.length:Int)≤5000) (hs:Small ns) (ha:ay w p ns) (N:Nat) (hN:N≤ns.length) (text:ByteArray) (kp:Option Addr) (aP:Nat) (kids:List Int) (place:Int) (hf:dW w kp kids) (cO:(kids.length:Int)≤20000) (gy:∀k∈kids,0≤k∧k<N)
  (dL:0<kids.length) (bz:kids.length≤aP) (ke:∀k∈kids.dropLast,0<(bL ns k).length):
  Calls Tryz.prog 142 #[.slice p ns.length c,LA ⟨1,text,kp,aP,kids,place⟩] w fun e w'=>e=dI (decide ((kids.dropLast.map (fun k=>(bL ns k).take 1)).Nodup))∧Below w.heap.size w w':=by
 unfold LA;simp only;obtain⟨q,hq⟩:∃q,q+1=kids.length:=⟨kids.length - 1,by omega⟩;have Hun:Hid (∀W,Below w.heap.size w W→Calls Tryz.prog 187 #[.slice p ns.length c,.slice kp q aP,.func (.func 189) #[] #[]] W fun e w'=>e=.returned (.bool (decide ((kids.dropLast.map (fun k=>(bL ns k).take 1)).Nodup)))∧Below W.heap.size W w'):=hid fun W hW=>by
  have h:=KL W p kp ns.length c q aP hL0 af (kids.dropLast.map (rL ns)) bt (Ig ha hf hW N hN kids.dropLast (List.dropLast_prefix _) (fun k hk=>gy k (List.dropLast_subset _ hk))) (fun s h=>by
   obtain⟨k,hk,rfl⟩:=List.mem_map.1 h;have h2:=ke k hk;rw [←s8] at h2;exact⟨by simpa using h2,Ac hs k⟩)
  rw [List.map_map] at h;rw [show((fun s:ByteArray=>s.data.toList.take 1) ∘ rL ns)=(fun k=>(bL ns k).take 1) from funext fun k=>by simp only [Function.comp,s8]] at h;exact h
 clear ha hf gy hs ke dL;generalize decide ((kids.dropLast.map (fun k=>(bL ns k).take 1)).Nodup)=R at*;generalize ns.length=L at*;rw [←hq] at bz cO ⊢;clear hq;have q0:(0:Int)≤(q:Int):=af;have q1:(q:Int)≤(aP:Int):=af;exact aek
end Go.Proofs.YtjchnliaglecoaaGreatDoor

/- A part of the proof. Conditions: none. -/
set_option maxRecDepth 100000
set_option maxHeartbeats 8000000
namespace Go.Proofs.YtjchnliaglecoaaGreatDoor
open Go Go.RowKit Go.Nodes
theorem RG (w:World) (p:Option Addr) (c:Nat) (ns:List Nd) (hs:Small ns) (ha:ay w p ns) (hl:bZ w) (n:Nat) (hn:n<ns.length) (hv:oY ns n) (x:Nd) (hf:dW w x.kp x.kids) (hsz:x.kids.length≤20000) (vT:x.text.size≤20000) (bz:x.kids.length≤x.aP) (hx:Rm ns n x):
  Calls Tryz.prog 142 #[.slice p ns.length c,LA x] w fun e w'=>e=dI (mI ns x)∧Below w.heap.size w w':=by
 have hL:(ns.length:Int)≤5000:=by have:=hs.1;omega
 have cO:(x.kids.length:Int)≤20000:=af;unfold mI;obtain⟨kind,text,kp,aP,kids,place⟩:=x;have bW:=hx.kids;simp only at hf hsz vT bz cO bW ⊢;by_cases h3:kind=3
 ·rw [if_pos h3];subst h3;exact J0 w p c ns hL ha n hn text kp aP kids place hf cO bW
 rw [if_neg h3];by_cases h67:kind=6∨kind=7
 ·rw [if_pos h67];have dL:0<kids.length:=tZ hx.fits (by simp only;omega);rcases h67 with rfl|rfl
  ·exact KD w p c ns hL ha n af hv text kp aP kids place hf dL bW
  ·exact KE w p c ns hL ha n af hv text kp aP kids place hf dL bW
 rw [if_neg h67];by_cases Nt:kind=21
 ·rw [if_pos Nt];subst Nt;refine Ej w p c ns hL hs ha hl n af text vT kp aP kids place hf bW fun h=>?_
  have h2:bn text.data.toList=(kids.length:Int):=of_decide_eq_true hx.text;have:=adn h;omega
 rw [if_neg Nt];by_cases Iz:kind=32
 ·rw [if_pos Iz];subst Iz;exact KF w p c ns hL hs ha n af text kp aP kids place hf cO bW
 rw [if_neg Iz];by_cases h1:kind=1
 ·rw [if_pos h1];subst h1;exact Ek w p c ns hL hs ha n af text kp aP kids place hf cO bW (tZ hx.fits ak) bz (BK hx hv af rfl)
 rw [if_neg h1];exact JZ w p ns.length c ⟨kind,text,kp,aP,kids,place⟩ ⟨h1,h3,by simp only;omega,by simp only;omega,Nt,Iz⟩
end Go.Proofs.YtjchnliaglecoaaGreatDoor

/- A part of the proof. Conditions: none. -/
set_option maxRecDepth 100000
set_option maxHeartbeats 8000000
namespace Go.Proofs.YtjchnliaglecoaaGreatDoor
open Go Go.RowKit Go.Nodes
def aY (W:World) (U:Nat) (us:List Bool):World:={W with heap:=W.heap.setIfInBounds U (.cells (us.map Value.bool).toArray 4 (0,0))}
@[simp, go_sem] theorem sF (W : World) (U : Nat) (us : List Bool) : (aY W U us).heap.size = W.heap.size := by simp [aY]
theorem og (W:World) (U:Nat) (us:List Bool) (b:Nat) (h:¬b=U):(aY W U us).heap[b]?=W.heap[b]?:=by
 have h':U≠b:=fun e=>h e.symm
 simp [aY,Array.getElem?_setIfInBounds,h']
theorem oM (W:World) (U:Nat) (us:List Bool) (h:U<W.heap.size):(aY W U us).heap[U]?=some (.cells (us.map Value.bool).toArray 4 (0,0)):=by
 simp [aY,h]
@[go_sem] theorem ag0 (W : World) (U : Nat) (us : List Bool) (b i : Nat) (h : ¬ b = U) : (aY W U us).cell? ⟨b, i, none⟩ = W.cell? ⟨b, i, none⟩ := World.cell?_of_block (w := W) (og W U us b h)
@[go_sem] theorem O0 (W : World) (U : Nat) (us : List Bool) (i : Nat) (h : U < W.heap.size) : (aY W U us).cell? ⟨U, i, none⟩ = us[i]?.map Value.bool := by
 simp [World.cell?,oM W U us h]
@[go_sem] theorem Lx (W : World) (U : Nat) (us : List Bool) (i : Nat) (h : U < W.heap.size) : (aY W U us).frozen? ⟨U, i, none⟩ = false := by
 simp [World.frozen?,oM W U us h]
@[go_sem] theorem Xj (W : World) (U : Nat) (us : List Bool) (i : Nat) (x : Bool) (h : U < W.heap.size) : (aY W U us).setCell ⟨U, i, none⟩ (.bool x) = aY W U (us.set i x) := by
 simp only [World.setCell,aY];congr 1;apply Array.ext_getElem?;intro k;simp only [Array.getElem?_modify,Array.getElem?_setIfInBounds];by_cases e:U=k
 ·subst e;simp [h,List.map_set]
 ·simp [e]
theorem JD (W:World) (U:Nat) (us:List Bool) (h:W.heap[U]?=some (.cells (us.map Value.bool).toArray 4 (0,0))):aY W U us=W:=by
 have hlt:=(Array.getElem?_eq_some_iff.1 h).1;unfold aY;congr 1;apply Array.ext_getElem?;intro k;by_cases e:U=k
 ·subst e;simp [hlt,←h]
 ·simp [Array.getElem?_setIfInBounds,e]
theorem qb (W:World) (U:Nat) (us vs:List Bool):aY (aY W U us) U vs=aY W U vs:=by
 simp only [aY];congr 1;apply Array.ext_getElem?;intro k;simp only [Array.getElem?_setIfInBounds,Array.size_setIfInBounds];by_cases e:U=k
 ·subst e;simp
 ·simp [e]
theorem sG (W:World) (g:gQ) (U:Nat) (us:List Bool) (h:U<W.heap.size):aY (grow W g) U us=grow (aY W U us) g:=by
 simp only [aY,grow];congr 1;apply Array.ext_getElem?;intro k;simp only [Array.getElem?_setIfInBounds,Array.getElem?_append,Array.size_append,Array.size_setIfInBounds];by_cases e:U=k
 ·subst e;simp [h];omega
 ·simp [e]
theorem fZ (W:World) (o:Obj) (U:Nat) (us:List Bool) (h:U<W.heap.size):aY (W.alloc o) U us=(aY W U us).alloc o:=by
 simp only [aY,World.alloc];congr 1;apply Array.ext_getElem?;intro k;simp only [Array.getElem?_setIfInBounds,Array.getElem?_push,Array.size_push,Array.size_setIfInBounds];by_cases e:U=k
 ·subst e;have h2:¬U=W.heap.size:=af;have h3:U<W.heap.size+1:=af;simp [h,h2,h3]
 ·simp [e]
theorem lZ {w W:World} {U:Nat} {us:List Bool} (hW:Below w.heap.size w W) (hU:w.heap.size≤U):Below w.heap.size w (aY W U us):=by
 obtain⟨h1,h2,h3,h4,h5⟩:=hW;exact⟨h1,h2,h3,by simpa using h4,fun k hk=>by rw [og _ _ _ _ af];exact h5 k hk⟩
end Go.Proofs.YtjchnliaglecoaaGreatDoor

/- A part of the proof. Conditions: none. -/
set_option maxRecDepth 100000
set_option maxHeartbeats 8000000
namespace Go.Proofs.YtjchnliaglecoaaGreatDoor
open Go Go.RowKit Go.Nodes
theorem Rz {k:Nat} (h1:1≤k) (h2:k≤36):dh k∈qc:=by
 have h:((List.range 37).all fun k=>Nat.beq k 0||decide (dh k∈qc))=true:=eV;have h3:=List.all_eq_true.1 h k (List.mem_range.2 af);cases e:Nat.beq k 0 with
 |true=>have:=Nat.eq_of_beq_eq_true e;omega
 |false=>rw [e] at h3;simpa using h3
theorem Zb {w:World} {p kp:Option Addr} {ns:List Nd} {kids:List Int} (ha:ay w p ns) (hf:dW w kp kids) (n:Nat) (hn:n≤ns.length) (hv:oY ns n) (gy:∀k∈kids,0≤k∧k<n):Dq w p kp ns.length (cR ns kids):=by
 intro i k hi;unfold cR at hi;rw [List.getElem?_map] at hi;cases hg:kids[i]? with
 |none=>rw [hg] at hi;cases hi
 |some a=>
  rw [hg] at hi;simp only [Option.map_some,Option.some.injEq] at hi;obtain⟨ji,hga⟩:=List.getElem?_eq_some_iff.1 hg;have AJ:=gy a (List.mem_of_getElem? hg);obtain⟨z,rfl⟩:∃z:Nat,a=(z:Int):=⟨a.toNat,by omega⟩;have hzl:z<ns.length:=af;obtain⟨b2,o2,rfl,hb2,hx2,hf2,d0,d1,d2,d3⟩:=bh ha hzl;have hvz:=hv z _ af hx2;rw [aL hx2] at hi;rcases hf with ix|⟨bk,ok,rfl,bO,eA⟩
  ·subst ix;simp at ji
  have h1:=hvz.k1;have h2:=hvz.Q4;have RA:=eA i ji;rw [hga] at RA;refine⟨by omega,by omega,b2,o2,bk,ok,z,rfl,rfl,hb2,bO,hzl,RA, ?_⟩;rw [d0,←hi];congr 2;omega
def JE (S ks:Value) (X kk:Nat) (fo:List UInt8):Nat→World→Value→Prop
 |0,w,v=>v=S
 |1,w,v=>v=.pointer (some ⟨X+1,2,none⟩)
 |2,w,v=>v=ks
 |3,w,v=>v=.pointer (some ⟨X+1,0,none⟩)
 |4,w,v=>v=.int .i64 kk
 |5,w,v=>v=.pointer (some ⟨X,kk,none⟩)
 |_,w,v=>v=str fo
theorem oh {S ks:Value} {X kk:Nat} {fo:List UInt8}:∀(k:Nat) (w w':World) (v:Value),Below w.heap.size w w'→JE S ks X kk fo k w v→JE S ks X kk fo k w' v:=by
 intro k w w' v hb h;unfold JE at*;exact yB
def jP (ns:List Nd) (x:Nd) (n:Nat) (us:List Bool):Option (List Bool):=match eF n x.kids us with
 |none=>none
 |some cU=>if okB ns x then some cU else none
def yO (B:Nat) (w W:World) (U:Nat) (r:Option (List Bool)) (e:Ending) (w':World):Prop:=match r with
 |none=>e=.panicked thrown∧∃cU g,w'=grow (aY W U cU) g
 |some cU=>e=.returned (.tuple #[])∧∃g,w'=grow (aY W U cU) g
theorem vh {B:Nat} {w W:World} {U:Nat} {r:Option (List Bool)} {e:Ending} {w':World} (cU:List Bool) (hr:r=none) (he:e=.panicked thrown) (hb:Below (aY W U cU).heap.size (aY W U cU) w'):yO B w W U r e w':=by
 subst hr;obtain⟨g,hg⟩:=aC hb;exact⟨he,cU,g,hg⟩
theorem Nv {B:Nat} {w W:World} {U:Nat} {r:Option (List Bool)} {cU:List Bool} {e:Ending} {w':World} (hr:r=some cU) (he:e=.returned (.tuple #[])) (g:gQ) (hb:w'=grow (aY W U cU) g):yO B w W U r e w':=by
 subst hr;exact⟨he,g,hb⟩
theorem FN {ns:List Nd} {x:Nd} (h:¬(1≤x.kind∧x.kind≤36)):okB ns x=false:=by unfold okB;rw [decide_eq_false h];simp
theorem Nw {ns:List Nd} {x:Nd} (h:¬0≤x.place):okB ns x=false:=by unfold okB;rw [decide_eq_false h];simp
theorem yP {ns:List Nd} {x:Nd} {n:Nat} {us:List Bool} (h:okB ns x=false):jP ns x n us=none:=by
 unfold jP;cases eF n x.kids us with
 |none=>rfl
 |some u=>simp [h]
theorem RB (w W:World) (p:Option Addr) (c:Nat) (ns:List Nd) (hs:Small ns) (hc:gS ns) (ha:ay w p ns) (hl0:bZ w) (n:Nat) (hn:n<ns.length) (hv:oY ns n)
  (fa:Array Value) (hfa:∀k,1≤k→k≤36→fa[k]?=some (str (dh k))) (U:Nat) (uc:Nat) (us:List Bool) (hus:us.length=ns.length) (hW:Below w.heap.size w W) (hU:w.heap.size≤U) (hU2:U<W.heap.size):
  Calls Tryz.prog 92 #[.slice p ns.length c,.int .i64 (n:Int),.slice (some ⟨U,0,none⟩) ns.length uc,.agg fa] (aY W U us) (yO w.heap.size w W U (jP ns ns[n] n us)):=by
 obtain⟨b,o,rfl,hb,hx,hf,c0,c1,c2,c3⟩:=bh ha hn;have hsm:=hs.2 ns[n] (List.getElem_mem hn);have bz:=hc ns[n] (List.getElem_mem hn);have Ha:=hid ha;have Hs:=hid hs;have Hc:=hid hc;have Hl:=hid hl0;have Hv:=hid hv;have Hfa:=hid hfa;have HW:=hid hW;have e0:W.cell? ⟨b,o+n*4,none⟩=some (.int .i64 ns[n].kind):=(hW.cell (p:=⟨b,_,none⟩) hb).trans c0;have e1:W.cell? ⟨b,o+n*4+1,none⟩=some (.string ns[n].text):=(hW.cell (p:=⟨b,_,none⟩) hb).trans c1;have e2:W.cell? ⟨b,o+n*4+2,none⟩=some (.slice ns[n].kp ns[n].kids.length ns[n].aP):=(hW.cell (p:=⟨b,_,none⟩) hb).trans c2;have e3:W.cell? ⟨b,o+n*4+3,none⟩=some (.int .i64 ns[n].place):=(hW.cell (p:=⟨b,_,none⟩) hb).trans c3;have Hf:=hid hf.2.2.2.2.2;have hL5:(ns.length:Int)≤5000:=by have:=hs.1;omega
 have n0:(0:Int)≤(n:Int):=af;have n1:(n:Int)<(ns.length:Int):=af;have bU:¬b=U:=af;have bw:b<W.heap.size:=af;have Hx:=hid hx;clear c0 c1 c2 c3 ha hs hc hl0 hv hfa hW hf hx;obtain⟨L,hL⟩:∃L,L=ns.length:=⟨_,rfl⟩;rw [←hL] at hus hL5 n1 ⊢;have HL:=hid hL;clear hL;obtain⟨q,hq⟩:∃q,q=ns[n].kids.length:=⟨_,rfl⟩;rw [←hq] at e2;have BH:(q:Int)≤20000:=by have:=hsm.1;omega
 generalize hxx:ns[n]=x at*;obtain⟨kind,text,kp,aP,kids,place⟩:=x;simp only at hsm bz hq Hf e0 e1 e2 e3;have Hsm:=hid hsm;have kI:=hid bz;have Hq:=hid hq;have Hxx:=hid hxx;clear hsm bz hq hxx;have Xh:Below w.heap.size w (aY W U us):=lZ HW.out hU;have Hbw:=hid Xh;clear Xh;by_cases C7:kind≤0
 ·have hr:jP ns ⟨kind,text,kp,aP,kids,place⟩ n us=none:=yP (FN (by simp only;omega));have Hr:=hid hr;clear hr;exact RD
 by_cases Zc:36<kind
 ·have hr:jP ns ⟨kind,text,kp,aP,kids,place⟩ n us=none:=yP (FN (by simp only;omega));have Hr:=hid hr;clear hr;have ahj:¬kind<37:=af;exact RD
 by_cases hpl:place<0
 ·have hr:jP ns ⟨kind,text,kp,aP,kids,place⟩ n us=none:=yP (Nw (by simp only;omega));have Hr:=hid hr;clear hr;have ahj:kind<37:=af;have aqy:0<kind:=af;have aqs:¬0≤place:=af;exact RD
 obtain⟨k,rfl⟩:∃k:Nat,kind=(k:Int):=⟨kind.toNat,by omega⟩;have ahj:(k:Int)<37:=af;have aqy:(0:Int)<(k:Int):=af;have r7:1≤k:=af;have AQ:k≤36:=af;have aqz:(0:Int)≤place:=af;clear C7 Zc hpl;go_enter Tryz.func92,Tryz.ntmps92;go_wp2_with (go_at_call 139;((with_reducible refine(eM _).mono ?_));rintro e w' ⟨rfl,hw⟩;rw [hw];clear hw w');go_loopw [32] (fun i wr=>∃(j:Nat) (cU:List Bool),j≤q∧i=.int .i64 j∧cU.length=L∧
  wr=((aY W U cU).alloc (.cells fa 135)).alloc (.cells #[.int .i64 k,.string text,.slice kp q aP,.int .i64 place] 56)∧Hid (eF n (kids.drop j) cU=eF n kids us)) (fun i _=>q - (intOf i).toNat)
 case atStart=>exact⟨0,us,by omega,rfl,hus,rfl,hid rfl⟩
 case round=>
  obtain⟨j,cU,hj,rfl,FI,rfl,hI⟩:=hrel;have alE:Hid (Below w.heap.size w (((aY W U cU).alloc (.cells fa 135)).alloc (.cells #[.int .i64 k,.string text,.slice kp q aP,.int .i64 place] 56))):=hid (bA (bA (lZ HW.out hU) _) _);by_cases hjq:j<q
  ·have hjk:j<kids.length:=by have:=Hq.out;omega
   rcases Hf.out with ix|⟨bx,ox,hpx,De,C6⟩
   ·subst ix;simp at hjk
   subst hpx;replace C6:=(HW.out.cell (p:=⟨bx,_,none⟩) De).trans (C6 j hjk);have bxU:¬bx=U:=af;have bxw:bx<W.heap.size:=by have:=HW.out.size;omega
   have bW:=yJ n kids j hjk cU;rw [hI.out] at bW;generalize kids[j]=u at*;have q0:(0:Int)≤(j:Int):=af;have q1:(j:Int)<(q:Int):=af;have jx:¬(0≤u∧u<n∧cU.getD u.toNat false=false)→jP ns ⟨k,text,some ⟨bx,ox,none⟩,aP,kids,place⟩ n us=none:=fun hno=>by
    rw [if_neg hno] at bW;unfold jP;simp only [bW]
   by_cases hu0:u<0
   ·have Hb:=hid (jx af);have awN:¬(0:Int)≤u:=af;exact adr
   by_cases Xe:(n:Int)≤u
   ·have Hb:=hid (jx af);have hu2:0≤u:=af;have hu3:¬u<(n:Int):=af;exact adr
   obtain⟨z,rfl⟩:∃z:Nat,u=(z:Int):=⟨u.toNat,by omega⟩;rw [Int.toNat_natCast] at jx bW;have hz1:z<cU.length:=af;have hz2:cU[z]?=some (cU.getD z false):=by rw [List.getD,List.getElem?_eq_getElem hz1];rfl
   have z0:(0:Int)≤(z:Int):=af;have z1:(z:Int)<(n:Int):=af;have z2:(z:Int)<(L:Int):=af;cases AP:cU.getD z false with
   |true=>
    have Hb:=hid (jx (by rw [AP];simp));rw [AP] at hz2;clear jx bW AP;exact ads
   |false=>
    rw [AP] at hz2;rw [if_pos ⟨z0,z1,AP⟩] at bW;have kH:=hid bW;clear jx bW AP;go_wp2_with (go_at_call 139;((with_reducible refine(eM _).mono ?_));rintro e w' ⟨rfl,hw⟩;rw [hw];clear hw w');go_roundw
    case rel=>exact⟨j+1,cU.set z true,by omega,by go_num,by simp [FI],rfl,hid kH.out.symm⟩
    case measure=>simp [intOf];omega
  ·obtain rfl:j=q:=by omega
   have cO:eF n kids us=some cU:=by rw [←hI.out,Hq.out,List.drop_length];rfl
   have dA:=lz n kids us cU cO;have lN:=hid cO;have HX:Hid (Below w.heap.size w (((aY W U cU).alloc (.cells fa 135)).alloc (.cells #[.int .i64 k,.string text,.slice kp j aP,.int .i64 place] 56))):=alE;clear hI cO alE;have Xi:fa[k]?=some (str (dh k)):=Hfa.out k r7 AQ;have l7:n≤ns.length:=af;obtain⟨fb,hfb⟩:∃fb,fb=fJ (dh k) (cR ns kids):=⟨_,rfl⟩;have adu:∀W',Below w.heap.size w W'→Calls Tryz.prog 140 #[.slice (some ⟨b,o,none⟩) L c,.slice kp j aP,str (dh k)] W' fun e w'=>e=dI fb∧Below W'.heap.size W' w':=fun W' Il=>by
    rw [hfb,HL.out];exact RF W' (some ⟨b,o,none⟩) kp ns.length c j aP (dh k) (Rz r7 AQ) af nw _ (by simp [cR,Hq.out]) (Zb (ay.later Ha.out Il) (dW.later Hf.out Il) n l7 Hv.out dA)
   obtain⟨tb,xx⟩:∃tb,tb=ru k text.data.toList j:=⟨_,rfl⟩;have adv:∀W',Below w.heap.size w W'→Calls Tryz.prog 141 #[.agg #[.int .i64 (k:Int),.string text,.slice kp j aP,.int .i64 place]] W' fun e w'=>e=.returned (.bool tb)∧Below W'.heap.size W' w':=fun W' Il=>by
    rw [xx];exact Ry k r7 AQ text (by have:=Hsm.out.2;omega) kp j aP place W' (bZ.later Hl.out Il)
   obtain⟨eb,OY⟩:∃eb,eb=mI ns ⟨k,text,kp,aP,kids,place⟩:=⟨_,rfl⟩;have FO:fb=true→tb=true→∀W',Below w.heap.size w W'→Calls Tryz.prog 142 #[.slice (some ⟨b,o,none⟩) L c,.agg #[.int .i64 (k:Int),.string text,.slice kp j aP,.int .i64 place]] W' fun e w'=>e=dI eb∧Below W'.heap.size W' w':=fun h1 h2 W' Il=>by
    have h:=RG W' (some ⟨b,o,none⟩) c ns Hs.out (ay.later Ha.out Il) (bZ.later Hl.out Il) n hn Hv.out ⟨k,text,kp,aP,kids,place⟩ (dW.later Hf.out Il) Hsm.out.1 Hsm.out.2 kI.out
     ⟨by simp only;omega,by simp only;omega,dA,by rw [Int.toNat_natCast];simp only;rw [←hfb];exact h1,by rw [Int.toNat_natCast];simp only;rw [←Hq.out,←xx];exact h2⟩
    unfold LA at h;simp only at h;rw [←HL.out,←Hq.out,←OY] at h;exact h
   have vg:okB ns ⟨k,text,kp,aP,kids,place⟩=(fb && tb && eb):=by
    unfold okB;simp only [decide_eq_true aqz,decide_eq_true (show(1:Int)≤(k:Int)∧(k:Int)≤36 by omega),Bool.true_and,Int.toNat_natCast,←Hq.out,←hfb,←xx,←OY]
   have wh:=hid adu;have RH:=hid adv;have BN:=hid FO;have ah:jP ns ⟨k,text,kp,aP,kids,place⟩ n us=if(fb && tb && eb)=true then some cU else none:=by
    unfold jP;simp only [lN.out,vg]
   have adw:=hid ah;clear adu adv FO vg ah hfb xx OY dA l7;generalize dh k=fo at*;cases fb with
   |false=>
    replace wh:Hid (∀W',Below w.heap.size w W'→Calls Tryz.prog 140 #[.slice (some ⟨b,o,none⟩) L c,.slice kp j aP,str fo] W' fun e w'=>e=.panicked thrown∧Below W'.heap.size W' w'):=wh;go_wp2;refine wp_region_any ai ?_;refine Am.cJ _ 7 rfl ai ?_;simp only [List.take_succ_cons,List.take_zero];refine Am.bM (Φ:=JE (.slice (some ⟨b,o,none⟩) L c) (.slice kp j aP) W.heap.size k fo) (w0:=(((aY W U cU).alloc (.cells fa 135)).alloc (.cells #[.int .i64 k,.string text,.slice kp j aP,.int .i64 place] 56))) ai ai oh ?_ ?_ _ ((Below.refl _ _).drew)
    ·exact LC
    ·have Zd:=trivial;exact ahk
   |true=>
    replace wh:Hid (∀W',Below w.heap.size w W'→Calls Tryz.prog 140 #[.slice (some ⟨b,o,none⟩) L c,.slice kp j aP,str fo] W' fun e w'=>e=.returned (.tuple #[])∧Below W'.heap.size W' w'):=wh;cases tb with
    |false=>
     go_wp2;refine wp_region_any ai ?_;refine Am.cJ _ 7 rfl ai ?_;simp only [List.take_succ_cons,List.take_zero];refine Am.bM (Φ:=JE (.slice (some ⟨b,o,none⟩) L c) (.slice kp j aP) W.heap.size k fo) (w0:=(((aY W U cU).alloc (.cells fa 135)).alloc (.cells #[.int .i64 k,.string text,.slice kp j aP,.int .i64 place] 56))) ai ai oh ?_ ?_ _ ((Below.refl _ _).drew)
     ·exact LC
     ·have Ze:=trivial;exact ahk
    |true=>
     cases eb with
     |false=>
      replace BN:Hid (∀W',Below w.heap.size w W'→Calls Tryz.prog 142 #[.slice (some ⟨b,o,none⟩) L c,.agg #[.int .i64 (k:Int),.string text,.slice kp j aP,.int .i64 place]] W' fun e w'=>e=.panicked thrown∧Below W'.heap.size W' w'):=hid (BN.out rfl rfl);go_wp2;refine wp_region_any ai ?_;refine Am.cJ _ 7 rfl ai ?_;simp only [List.take_succ_cons,List.take_zero];refine Am.bM (Φ:=JE (.slice (some ⟨b,o,none⟩) L c) (.slice kp j aP) W.heap.size k fo) (w0:=(((aY W U cU).alloc (.cells fa 135)).alloc (.cells #[.int .i64 k,.string text,.slice kp j aP,.int .i64 place] 56))) ai ai oh ?_ ?_ _ ((Below.refl _ _).drew)
      ·exact LC
      ·have Zf:=trivial;exact ahk
     |true=>
      replace BN:Hid (∀W',Below w.heap.size w W'→Calls Tryz.prog 142 #[.slice (some ⟨b,o,none⟩) L c,.agg #[.int .i64 (k:Int),.string text,.slice kp j aP,.int .i64 place]] W' fun e w'=>e=.returned (.tuple #[])∧Below W'.heap.size W' w'):=hid (BN.out rfl rfl);go_wp2;refine wp_region_any ai ?_;refine Am.cJ _ 7 rfl ai ?_;simp only [List.take_succ_cons,List.take_zero];refine Am.bM (Φ:=JE (.slice (some ⟨b,o,none⟩) L c) (.slice kp j aP) W.heap.size k fo) (w0:=(((aY W U cU).alloc (.cells fa 135)).alloc (.cells #[.int .i64 k,.string text,.slice kp j aP,.int .i64 place] 56))) ai ai oh ?_ ?_ _ ((Below.refl _ _).drew)
      ·exact LC
      ·have Zg:=trivial;exact alF
end Go.Proofs.YtjchnliaglecoaaGreatDoor

/- A part of the proof. Conditions: none. -/
set_option maxRecDepth 100000
set_option maxHeartbeats 8000000
namespace Go.Proofs.YtjchnliaglecoaaGreatDoor
open Go Go.RowKit Go.Nodes
theorem Gh (W:World) (A:Nat) (fa:Array Value) (hA:W.heap[A]?=some (.cells fa 135 (0,0))) (hs:fa.size=37):(Instr.loadAt 135 (.pointer (some ⟨A,0,none⟩))).run Tryz.prog W=.ok (.agg fa) W:=by
 have h:=run_loadVar_row (P:=Tryz.prog) W A 135 135 fa (0,0) _ hA Tryz.underlying135 rfl (by rw [hs];kernel_rfl);unfold Instr.loadAt;simp [Instr.sureAddr,h]
theorem LW {ops:Array Oper} {rest:List Oper} {o:Oper} {a:Act} {w:World} {Q:Exit→Act→World→Prop} {A:Nat} {fa:Array Value} (hg:o.guard=none) (x:Operand) (ho:o.op=Op.load 135 x) (hx:a.eval x=.pointer (some ⟨A,0,none⟩))
  (hld:(Instr.loadAt 135 (.pointer (some ⟨A,0,none⟩))).run Tryz.prog w=.ok (.agg fa) w) (h:wpList Tryz.prog ops Q rest (a.put o.dst (.agg fa)) w):wpList Tryz.prog ops Q (o::rest) a w:=
 wpList_plain hg fun K hK=>by
  unfold Oper.wp execOp;simp only [ho,hx,hld,Sem.run_bind,Sem.run_pure,Result.andThen_ok];exact hK _ _ h
theorem NV (W:World) (LB NB UB AB:Nat) (l n u:Value) (fa:Array Value) (hL:W.cell? ⟨LB,0,none⟩=some l) (hN:W.cell? ⟨NB,0,none⟩=some n) (hU:W.cell? ⟨UB,0,none⟩=some u) (hA:W.heap[AB]?=some (.cells fa 135 (0,0))) (hs:fa.size=37)
  (S:World→Prop) (h:Calls Tryz.prog 92 #[l,n,u,.agg fa] W fun e w'=>e=.panicked thrown∧S w'):
  Calls Tryz.prog 91 #[.pointer (some ⟨LB,0,none⟩),.pointer (some ⟨NB,0,none⟩),.pointer (some ⟨UB,0,none⟩),.pointer (some ⟨AB,0,none⟩)] W fun e w'=>e=.panicked thrown∧S w':=by
 have hld:=hid (Gh W AB fa hA hs);have H:=hid h;clear h hA;go_enter Tryz.func91,Tryz.ntmps91;go_wp2_with (first
  |(refine LW rfl _ rfl rfl hld.out ?_)
  |(go_at_call 92;((with_reducible refine H.out.mono ?_));rintro e w' ⟨rfl,hb⟩))
 exact⟨rfl,rfl,hb⟩
theorem J2 (W:World) (LB NB UB AB:Nat) (l n u:Value) (fa:Array Value) (hL:W.cell? ⟨LB,0,none⟩=some l) (hN:W.cell? ⟨NB,0,none⟩=some n) (hU:W.cell? ⟨UB,0,none⟩=some u) (hA:W.heap[AB]?=some (.cells fa 135 (0,0))) (hs:fa.size=37)
  (S:World→Prop) (h:Calls Tryz.prog 92 #[l,n,u,.agg fa] W fun e w'=>e=.returned (.tuple #[])∧S w'):
  Calls Tryz.prog 91 #[.pointer (some ⟨LB,0,none⟩),.pointer (some ⟨NB,0,none⟩),.pointer (some ⟨UB,0,none⟩),.pointer (some ⟨AB,0,none⟩)] W fun e w'=>e=.returned (.tuple #[])∧S w':=by
 have hld:=hid (Gh W AB fa hA hs);have H:=hid h;clear h hA;go_enter Tryz.func91,Tryz.ntmps91;go_wp2_with (first
  |(refine LW rfl _ rfl rfl hld.out ?_)
  |(go_at_call 92;((with_reducible refine H.out.mono ?_));rintro e w' ⟨rfl,hb⟩))
 go_end0;exact⟨rfl,hb⟩
theorem LX (B:Nat):(#[Value.pointer (some ⟨B,0,none⟩)]++Array.replicate (Tryz.f138.ntmps - #[Value.pointer (some ⟨B,0,none⟩)].size) undef)=#[.pointer (some ⟨B,0,none⟩),undef,undef,undef,undef,undef,undef,undef,undef,undef,undef,undef,undef,undef,undef]:=by
 rw [Tryz.ntmps138];rfl
theorem DT (B:Nat) (x:Bool) (Gg:List PanicEntry) (w:World) (hc:w.cell? ⟨B,0,none⟩=some (.bool x)) (hz:w.frozen? ⟨B,0,none⟩=false) (hB:B<w.heap.size):
  CallsD Tryz.prog 138 #[.pointer (some ⟨B,0,none⟩)] (.panicking ({v:=.iface 170 (.agg #[]),recovered:=false}::Gg)) w fun e u' w'=>
   e=.returned (.tuple #[])∧u'=.panicking ({v:=.iface 170 (.agg #[]),recovered:=true}::Gg)∧w'=(w.setCell ⟨B,0,none⟩ (.bool false)).alloc (.cells #[] 170):=by
 refine callsD_of_wpS Tryz.func138 rfl fun c₀ cs hu=>?_
 rw [LX];apply wpS_seq;apply wpS_region;simp [wpOpsS,go_sem,recoverD,hu,Exit.thenS];refine wpS_of_wp ?_;have Xn:∀w,(Instr.typeAssert (.iface 170 (.agg #[])) 20 170 true).run Tryz.prog w=.ok (.tuple #[.agg #[],.bool true]) w:=fun _=>by kernel_rfl
 go_wp2;cases c₀
 simp_all [bodyPostS,results,Tryz.results138]
theorem J3 (B:Nat) (w:World):
  CallsD Tryz.prog 138 #[.pointer (some ⟨B,0,none⟩)] .returning w fun e u' w'=>e=.returned (.tuple #[])∧u'=.returning∧w'=w:=by
 refine callsD_of_wpS Tryz.func138 rfl fun c₀ cs hu=>?_
 rw [LX];apply wpS_seq;apply wpS_region;simp [wpOpsS,go_sem,recoverD,hu,Exit.thenS];refine wpS_of_wp ?_;go_wp2;cases c₀
 simp_all [bodyPostS,results,Tryz.results138]
theorem NW (a b c d:Value) (W:World) (U:Nat) (cU:List Bool) (hU:U<W.heap.size) (h:Calls Tryz.prog 91 #[a,b,c,d] (W.alloc (.cells #[.bool false] 4)) fun e w'=>e=.returned (.tuple #[])∧∃g,w'=grow (aY (W.alloc (.cells #[.bool false] 4)) U cU) g):
  Calls Tryz.prog 90 #[.func (.func 91) #[] #[a,b,c,d]] W fun e w'=>e=.returned (.bool true)∧∃g,w'=grow (aY W U cU) g:=by
 have hmf:∀(fn:Fn) (first cap:Array Value) (w:World),(Instr.makeFunc fn first cap).run Tryz.prog w=.ok (.func fn first cap) w:=fun _ _ _ _=>rfl
 have H:=hid h;have hne:¬W.heap.size=U:=af;have hR:=hid (fZ W (.cells #[.bool false] 4) U cU hU);clear h;go_enter_defers Tryz.func90,Tryz.ntmps90;go_wp2_with (go_at_call 91;((with_reducible refine H.out.mono ?_));rintro e w' ⟨rfl,g,rfl⟩;rw [hR.out]);refine leaves_cons (f:=138) (args:=#[.pointer (some ⟨W.heap.size,0,none⟩)]) ak (by simp [go_sem]) ?_;refine(J3 W.heap.size _).mono ?_;rintro e u' w'' ⟨rfl,rfl,rfl⟩;obtain⟨g9,h9⟩:=aC (show Below (aY W U cU).heap.size (aY W U cU) (grow ((aY W U cU).alloc (.cells #[.bool true] 4)) g) by repeat (first|exact Below.refl _ _|refine bG ?_ _|refine bA ?_ _));have H9:=hid h9;clear h9;simp [Leaves,settle,results,Tryz.results90,go_sem];exact⟨g9,H9.out⟩
theorem SZ (a b c d:Value) (W:World) (U:Nat) (hU:U<W.heap.size) (h:Calls Tryz.prog 91 #[a,b,c,d] (W.alloc (.cells #[.bool false] 4)) fun e w'=>e=.panicked thrown∧∃cU g,w'=grow (aY (W.alloc (.cells #[.bool false] 4)) U cU) g):
  Calls Tryz.prog 90 #[.func (.func 91) #[] #[a,b,c,d]] W fun e w'=>e=.returned (.bool false)∧∃cU g,w'=grow (aY W U cU) g:=by
 have hmf:∀(fn:Fn) (first cap:Array Value) (w:World),(Instr.makeFunc fn first cap).run Tryz.prog w=.ok (.func fn first cap) w:=fun _ _ _ _=>rfl
 have H:=hid h;have hne:¬W.heap.size=U:=af;have hR:=hid (fun cU=>fZ W (.cells #[.bool false] 4) U cU hU);clear h;go_enter_defers Tryz.func90,Tryz.ntmps90;go_wp2_with (go_at_call 91;((with_reducible refine H.out.mono ?_));rintro e w' ⟨rfl,cU,g,rfl⟩;rw [hR.out]);refine leaves_cons (f:=138) (args:=#[.pointer (some ⟨W.heap.size,0,none⟩)]) ak (by simp [go_sem]) ?_;refine(DT W.heap.size false [] _ ?_ ?_ ?_).mono ?_
 ·simp [go_sem]
 ·simp [go_sem]
 ·simp;omega
 rintro e u' w'' ⟨rfl,rfl,rfl⟩;have h9:Below (aY W U cU).heap.size (aY W U cU) ((grow ((aY W U cU).alloc (.cells #[.bool false] 4)) g).setCell ⟨W.heap.size,0,none⟩ (.bool false)|>.alloc (.cells #[] 170)):=bA (bS (bG (bA (Below.refl _ _) _) _) _ _ _ ak) _;simp [go_sem] at h9;have H9:=hid h9;clear h9;simp [Leaves,settle,results,Tryz.results90,go_sem];obtain⟨g9,hg⟩:=aC (w:=aY W U cU) (by rw [sF];exact H9.out);exact⟨cU,g9,hg⟩
end Go.Proofs.YtjchnliaglecoaaGreatDoor

/- A part of the proof. Conditions: none. -/
set_option maxRecDepth 100000
set_option maxHeartbeats 8000000
namespace Go.Proofs.YtjchnliaglecoaaGreatDoor
open Go Go.RowKit Go.Nodes
noncomputable def Tg:Array Value:=(qj.map fun l=>Value.string ⟨l.toArray⟩).toArray
def vD:Array Value:=(List.replicate 37 (Value.string ⟨#[]⟩)).toArray
theorem ahI (k:Nat) (h1:1≤k) (h2:k≤36):Tg[k]?=some (str (dh k)):=by
 unfold Tg;have h:k<qj.length:=by rw [show qj.length=37 by decide];omega
 simp [dh,List.getD,List.getElem?_eq_getElem h,str]
theorem ZL (ev : Operand → Value) (w : World) : (execOp ev { dst := some 4, op := Op.alloc 105, type := 0, pos := "tree.go:208", after := #[], guard := none }).run Tryz.prog w = .ok (.value (.pointer (some ⟨w.heap.size, 0, none⟩))) (w.alloc (.cells #[.slice none 0 0] 105)) := by kernel_rfl
theorem ZM (ev : Operand → Value) (w : World) : (execOp ev { dst := some 5, op := Op.alloc 135, type := 0, pos := "tree.go:208", after := #[], guard := none }).run Tryz.prog w = .ok (.value (.pointer (some ⟨w.heap.size, 0, none⟩))) (w.alloc (.cells vD 135)) := by kernel_rfl
theorem ad2 {A B:Array Value} {s t:TypeId} {o:Option Obj} (h1:o=some (.cells A s (0,0))) (h2:o=some (.cells B t (0,0))) (hst:¬s=t):False:=by
 rw [h1] at h2;exact hst (Obj.cells.inj (Option.some.inj h2)).2.1
theorem NY {B g:Nat} {w0 w:World} (hb:Below B w0 w) (hBg:B≤g) (cs:Array Value):Below B w0 (w.setRow g cs):=by
 obtain⟨h1,h2,h3,h4,h5⟩:=hb;exact⟨h1,h2,h3,by simpa using h4,fun k hk=>by rw [setRow_other _ _ _ _ af];exact h5 k hk⟩
theorem zv {w w':World} {U:Nat} {o:Obj} (hb:Below w.heap.size w w') (h:w.heap[U]?=some o):w'.heap[U]?=some o:=(hb.block _ (Array.getElem?_eq_some_iff.1 h).1).trans h
def ZN (S:Value) (L B:Nat):Nat→World→Value→Prop
 |0,w,v=>v=S
 |1,w,v=>v=.int .i64 L
 |2,w,v=>∃U:Nat,v=.slice (some ⟨U,0,none⟩) L L∧w.heap[U]?=some (.cells ((List.replicate L false).map Value.bool).toArray 4 (0,0))∧B≤U
 |3,w,v=>v=zw
 |4,w,v=>∃U:Nat,v=.pointer (some ⟨U,0,none⟩)∧w.heap[U]?=some (.cells #[.slice none 0 0] 105 (0,0))∧B≤U
 |_,w,v=>∃U:Nat,v=.pointer (some ⟨U,0,none⟩)∧w.heap[U]?=some (.cells vD 135 (0,0))∧B≤U
theorem J6 {S:Value} {L B:Nat}:∀(k:Nat) (w w':World) (v:Value),Below w.heap.size w w'→ZN S L B k w v→ZN S L B k w' v:=by
 intro k w w' v hb h;unfold ZN at*;split at h<;>first|exact h|exact(fun⟨U,e,hh,hB⟩=>⟨U,e,zv hb hh,hB⟩) h
theorem Th (w W:World) (p:Option Addr) (c:Nat) (ns:List Nd) (hs:Small ns) (hc:gS ns) (ha:ay w p ns) (hl0:bZ w) (n:Nat) (hn:n<ns.length) (hv:oY ns n)
  (K1 K2 U:Nat) (us:List Bool) (g:gQ) (hus:us.length=ns.length) (hW:Below w.heap.size w W) (hU:w.heap.size<U) (hU2:U<W.heap.size) (n1:¬K1=U) (n2:¬K2=U)
  (hL:W.heap[w.heap.size]?=some (.cells #[.slice p ns.length c] 22 (0,0))) (Ti:W.heap[K1]?=some (.cells #[.slice (some ⟨U,0,none⟩) ns.length ns.length] 105 (0,0))) (hK2:W.heap[K2]?=some (.cells Tg 135 (0,0))):
  Calls Tryz.prog 90 #[.func (.func 91) #[] #[.pointer (some ⟨w.heap.size,0,none⟩),.pointer (some ⟨W.heap.size+g.size,0,none⟩),.pointer (some ⟨K1,0,none⟩),.pointer (some ⟨K2,0,none⟩)]]
   ((grow (aY W U us) g).alloc (.cells #[.int .i64 (n:Int)] 3)) fun e w'=>match jP ns ns[n] n us with
    |none=>e=.returned (.bool false)∧∃cU g2,w'=grow ((grow (aY W U cU) g).alloc (.cells #[.int .i64 (n:Int)] 3)) g2
    |some cU=>e=.returned (.bool true)∧∃g',w'=grow (aY W U cU) g':=by
 have lt1:=(Array.getElem?_eq_some_iff.1 Ti).1;have lt2:=(Array.getElem?_eq_some_iff.1 hK2).1;have lt0:=(Array.getElem?_eq_some_iff.1 hL).1;have xR:¬w.heap.size=U:=af;obtain⟨X,hX⟩:∃X,X=(grow W g).alloc (.cells #[.int .i64 (n:Int)] 3):=⟨_,rfl⟩;have hXe:((grow (aY W U us) g).alloc (.cells #[.int .i64 (n:Int)] 3))=aY X U us:=by rw [hX,fZ _ _ _ _ bt,sG _ _ _ _ hU2]
 have hXb:Below w.heap.size w X:=by rw [hX];exact bA (bG hW _) _
 have hXs:U<X.heap.size:=by rw [hX];simp;omega
 have old:∀k o,¬k=U→W.heap[k]?=some o→((aY X U us).alloc (.cells #[.bool false] 4)).heap[k]?=some o:=fun k o hk h=>by
  have hlt:=(Array.getElem?_eq_some_iff.1 h).1;rw [heap_alloc_old _ _ (by rw [sF,hX];simp;omega),og _ _ _ _ hk,hX,heap_alloc_old _ _ bt,dK _ _ _ hlt];exact h
 have cell0:∀(Y:World) (k:Nat) (v:Value) (t:TypeId),Y.heap[k]?=some (.cells #[v] t (0,0))→Y.cell? ⟨k,0,none⟩=some v:=fun Y k v t h=>by simp [World.cell?,h]
 have hcN:((aY X U us).alloc (.cells #[.bool false] 4)).cell? ⟨W.heap.size+g.size,0,none⟩=some (.int .i64 (n:Int)):=by
  refine cell0 _ _ _ 3 ?_;rw [heap_alloc_old _ _ (by rw [sF,hX];simp),og _ _ _ _ af,hX];have:=heap_alloc_new (grow W g) (.cells #[.int .i64 (n:Int)] 3);simpa using this
 rw [hXe];have hlk:=RB w (X.alloc (.cells #[.bool false] 4)) p c ns hs hc ha hl0 n hn hv Tg ahI U ns.length us hus (bA hXb _) af bt;rw [fZ _ _ _ _ hXs] at hlk;have hrow:∀cU,aY ((aY X U us).alloc (.cells #[.bool false] 4)) U cU=aY (X.alloc (.cells #[.bool false] 4)) U cU:=fun cU=>by
  rw [←fZ _ _ _ _ hXs,qb]
 have amr:Tg.size=37:=by unfold Tg;rw [List.size_toArray,List.length_map];decide
 cases ZO:jP ns ns[n] n us with
 |none=>
  rw [ZO] at hlk;refine(SZ _ _ _ _ (aY X U us) U (by simpa using hXs) ?_).mono fun e w' ⟨he,cU,g2,hw⟩=>⟨he,cU,g2,by rw [hw,qb,hX,fZ _ _ _ _ bt,sG _ _ _ _ hU2]⟩
  exact NV _ _ _ _ _ _ _ _ _ (cell0 _ _ _ 22 (old _ _ xR hL)) hcN (cell0 _ _ _ 105 (old _ _ n1 Ti)) (old _ _ n2 hK2) amr _ (hlk.mono fun e w' ⟨he,cU,g2,hw⟩=>⟨he,cU,g2,by rw [hrow,hw]⟩)
 |some cU=>
  rw [ZO] at hlk;refine(NW _ _ _ _ (aY X U us) U cU (by simpa using hXs) ?_).mono fun e w' ⟨he,g2,hw⟩=>⟨he, ?_⟩
  ·exact J2 _ _ _ _ _ _ _ _ _ (cell0 _ _ _ 22 (old _ _ xR hL)) hcN (cell0 _ _ _ 105 (old _ _ n1 Ti)) (old _ _ n2 hK2) amr _ (hlk.mono fun e w' ⟨he,g2,hw⟩=>⟨he,g2,by rw [hrow,hw]⟩)
  ·rw [qb] at hw;have h9:Below (aY W U cU).heap.size (aY W U cU) w':=by
    rw [hw,hX,fZ _ _ _ _ bt,sG _ _ _ _ hU2];exact bG (bA (bG (Below.refl _ _) _) _) _
   exact aC h9
theorem zx {ns l:List Nd} {x:Nd} {n:Nat} {us:List Bool} (h:jP ns x n us=none):∃v,fh ns (x::l) n us=(some n,v):=by
 unfold jP at h;cases hk:eF n x.kids us with
 |none=>exact⟨us,by unfold fh;simp only [hk]⟩
 |some cU=>
  rw [hk] at h;simp only at h;cases ho:okB ns x with
  |true=>rw [ho] at h;cases h
  |false=>exact⟨cU,yK hk ho⟩
theorem AY {ns:List Nd} {x:Nd} {n:Nat} {us cU:List Bool} (h:jP ns x n us=some cU):eF n x.kids us=some cU∧okB ns x=true:=by
 unfold jP at h;cases hk:eF n x.kids us with
 |none=>rw [hk] at h;cases h
 |some us3=>
  rw [hk] at h;simp only at h;cases ho:okB ns x with
  |true=>rw [ho] at h;cases h;exact⟨rfl,rfl⟩
  |false=>rw [ho] at h;cases h
theorem wL {ns:List Nd} {x:Nd} {n:Nat} {us cU:List Bool} (hk:eF n x.kids us=some cU) (ho:okB ns x=true):RZ ns n x:=by
 unfold okB at ho;simp only [Bool.and_eq_true,decide_eq_true_eq] at ho;exact⟨ho.1.1.2.1.1,ho.1.1.2.1.2,ho.1.1.1,lz n x.kids us cU hk,ho.1.1.2.2,ho.1.2,ho.2⟩
theorem NT (w:World) (p:Option Addr) (c:Nat) (ns:List Nd) (hs:Small ns) (hc:gS ns) (ha:ay w p ns) (hl0:bZ w):
  Calls Tryz.prog 42 #[.slice p ns.length c] w (tX (bg ns).1 (bg ns).2 w):=by
 have Ha:=hid ha;have Hs:=hid hs;have Hc:=hid hc;have Hl:=hid hl0;clear ha hs hc hl0;obtain⟨L,hL⟩:∃L,L=ns.length:=⟨_,rfl⟩;rw [←hL];have hL5:(L:Int)≤5000:=by have:=Hs.out.1;omega
 have HL:=hid hL;clear hL;go_enter Tryz.func42,Tryz.ntmps42;go_wp2;refine wp_region_any ai ?_;refine Am.cJ _ 7 rfl ai ?_;simp only [List.take_succ_cons,List.take_zero];refine Am.cJ _ 6 rfl ai ?_;simp only [List.take_succ_cons,List.take_zero];refine Am.bM (Φ:=ZN (.slice p L c) L (w.heap.size+1)) (w0:=(w.alloc (.cells #[.slice p L c] 22))) ai ai J6 ?_ ?_ _ ((Below.refl _ _).drew)
 ·intro kq o ca w1 ho hb ah K hK;have hc0:w1.cell? ⟨w.heap.size,0,none⟩=some (.slice p L c):=(hb.cell (p:=⟨_,0,none⟩) ak).trans (by simp [go_sem]);have hBs:w.heap.size+1≤w1.heap.size:=by have:=hb.size;simpa using this
  have hfn:∀f,ca.eval (.func f)=.func (.func f) #[] #[]:=fun _=>rfl
  have hcs:∀v,ca.eval (.const v)=v:=fun _=>rfl
  rcases kq with _|_|_|_|_|_|kq
  ·cases ho;have aQ:=Am.lo 1 ah rfl;exact ad3
  ·cases ho;have aQ:=Am.lk 13 0 ah fun _=>rfl
   exact Dc
  ·cases ho;have aQ:=Am.lk 14 1 ah fun _=>rfl
   obtain⟨iB,hiB,zB0,zB1,zB2⟩:=info_parts Tryz.adg;have EG:=run_make (P:=Tryz.prog) w1 105 4 iB (.bool false) Tryz.underlying105 hiB zB0 .i64 .i64 (L:Int) (L:Int) af (Int.le_refl _) (by rw [zB2];omega) af;have hmc:madeCells (Value.bool false).cells ((L:Int).toNat*iB.size)=((List.replicate L false).map Value.bool).toArray:=by
    rw [zB1,Int.toNat_natCast,Nat.mul_one];apply Array.toList_inj.1;rw [show(Value.bool false).cells=#[Value.bool false] from rfl,toList_madeCells_one,List.map_replicate]
   rw [hmc,Int.toNat_natCast] at EG;refine Am.aD rfl rfl (Am.aU (v:=.slice (some ⟨w1.heap.size,0,none⟩) L L) (w':=w1.alloc (.cells ((List.replicate L false).map Value.bool).toArray 4)) ?_ (hK _ _ ((Below.refl _ _).alloc (Nat.le_refl _) _) ⟨w1.heap.size,rfl,heap_alloc_new _ _,hBs⟩));generalize ca.eval=ev at*;simp [execOp,aQ,EG]
  ·cases ho;refine Am.aD rfl rfl (Am.dG (w':=w1) (f:=89) (args:=#[]) ?_ ((NZ w1).mono ?_))
   ·exact zi
   ·exact Bz
  ·cases ho;refine Am.aD rfl rfl (Am.aU (v:=.pointer (some ⟨w1.heap.size,0,none⟩)) (w':=w1.alloc (.cells #[.slice none 0 0] 105)) ?_ (hK _ _ ((Below.refl _ _).alloc (Nat.le_refl _) _) ⟨w1.heap.size,rfl,heap_alloc_new _ _,hBs⟩));exact ZL _ w1
  ·cases ho;refine Am.aD rfl rfl (Am.aU (v:=.pointer (some ⟨w1.heap.size,0,none⟩)) (w':=w1.alloc (.cells vD 135)) ?_ (hK _ _ ((Below.refl _ _).alloc (Nat.le_refl _) _) ⟨w1.heap.size,rfl,heap_alloc_new _ _,hBs⟩));exact ZM _ w1
  ·simp at ho
 ·intro ca w1 hb hd hs aT bp;obtain⟨U,EH,hU,hU0⟩:∃U:Nat,ca.tmps.getD 15 undef=.slice (some ⟨U,0,none⟩) L L∧w1.heap[U]?=some (.cells ((List.replicate L false).map Value.bool).toArray 4 (0,0))∧w.heap.size+1≤U:=aT 2 _ 15 rfl rfl;have h16:ca.tmps.getD 16 undef=zw:=aT 3 _ 16 rfl rfl;obtain⟨K1,h4,Ti,ax3⟩:∃U:Nat,ca.tmps.getD 4 undef=.pointer (some ⟨U,0,none⟩)∧w1.heap[U]?=some (.cells #[.slice none 0 0] 105 (0,0))∧w.heap.size+1≤U:=aT 4 _ 4 rfl rfl;obtain⟨K2,h5,hK2,ax4⟩:∃U:Nat,ca.tmps.getD 5 undef=.pointer (some ⟨U,0,none⟩)∧w1.heap[U]?=some (.cells vD 135 (0,0))∧w.heap.size+1≤U:=aT 5 _ 5 rfl rfl;have bf:=Am.bC hd hs bp;simp only [List.foldl_cons,List.foldl_nil,EH,h16,h4,h5] at bf;generalize ca.tmps.getD 13 undef=x13 at bf;generalize ca.tmps.getD 14 undef=x14 at bf;subst bf;simp only [List.setIfInBounds_toArray,List.set_cons_succ,List.set_cons_zero];have n12:¬K1=K2:=fun e=>by rw [e,hK2] at Ti;cases Ti
  have n13:¬K1=U:=fun e=>ad2 (e ▸ Ti) hU aj
  have n23:¬K2=U:=fun e=>ad2 (e ▸ hK2) hU aj
  have hfs:Hid (zw=.agg Tg):=hid rfl;have hW:w1.heap[w.heap.size]?=some (.cells #[.slice p L c] 22 (0,0)):=(hb.block _ ak).trans (by simpa using heap_alloc_new w (.cells #[.slice p L c] 22));have Xh:Below w.heap.size w w1:=(bA (Below.refl _ _) (.cells #[.slice p L c] 22)).trans (hb.mono ak);clear hb hd hs aT bp EH h16 h4 h5;simp only [Am.gI];have hc1:w1.cell? ⟨K1,0,none⟩=some (.slice none 0 0):=by simp [World.cell?,Ti]
  have hz1:w1.frozen? ⟨K1,0,none⟩=false:=by simp [World.frozen?,Ti]
  have k2b:Hid ((w1.setCell ⟨K1,0,none⟩ (.slice (some ⟨U,0,none⟩) L L)).heap[K2]?=some (.cells vD 135 (0,0))):=hid (by rw [Below.heap_setCell _ _ _ _ (fun e=>n12 e.symm)];exact hK2);have HK1:=hid Ti;have HK2:=hid hK2;have HU:=hid hU;have HW:=hid hW;have amt:=hid Xh;have amu:Hid ((Tryz.prog.info? 135).map (·.size)=some Tg.size):=hid ai;clear Ti hK2 hU hW Xh;go_wp2;simp only [Am.gI];refine wpList_store_row rfl 135 _ _ rfl K2 Tg rfl rfl 135 vD k2b.out amu.out aj eV ?_;obtain⟨Wx,hWx⟩:∃Wx,Wx=(w1.setCell ⟨K1,0,none⟩ (.slice (some ⟨U,0,none⟩) L L)).setRow K2 Tg:=⟨_,rfl⟩;rw [←hWx];have hx1:Wx.heap[K1]?=some (.cells #[.slice (some ⟨U,0,none⟩) L L] 105 (0,0)):=by
   rw [hWx,setRow_other _ _ _ _ n12];simp [World.setCell,Array.getElem?_modify,HK1.out]
  have hx2:Wx.heap[K2]?=some (.cells Tg 135 (0,0)):=by rw [hWx];exact setRow_heap _ _ _ _ _ _ k2b.out
  have hxU:Wx.heap[U]?=some (.cells ((List.replicate L false).map Value.bool).toArray 4 (0,0)):=by
   rw [hWx,setRow_other _ _ _ _ (fun e=>n23 e.symm),Below.heap_setCell _ _ _ _ (fun e=>n13 e.symm)];exact HU.out
  have hxL:Wx.heap[w.heap.size]?=some (.cells #[.slice p L c] 22 (0,0)):=by
   rw [hWx,setRow_other _ _ _ _ af,Below.heap_setCell _ _ _ _ bt];exact HW.out
  have hxB:Below w.heap.size w Wx:=by rw [hWx];exact NY (bS amt.out _ _ _ af) af _
  clear hWx HK1 HK2 HU HW amt k2b amu hc1 hz1;have cL:Wx.cell? ⟨w.heap.size,0,none⟩=some (.slice p L c):=by simp [World.cell?,hxL]
  have cK:Wx.cell? ⟨K1,0,none⟩=some (.slice (some ⟨U,0,none⟩) L L):=by simp [World.cell?,hx1]
  have ltL:=(Array.getElem?_eq_some_iff.1 hxL).1;have ltU:=(Array.getElem?_eq_some_iff.1 hxU).1;have ltK:=(Array.getElem?_eq_some_iff.1 hx1).1;have nLU:¬w.heap.size=U:=af;have Hx1:=hid hx1;have Hx2:=hid hx2;have HxU:=hid hxU;have HxL:=hid hxL;have LL:=hid hxB;clear hx1 hx2 hxU hxL hxB;go_wp2;go_loopw [19] (fun i wr=>∃(n:Nat) (us:List Bool) (g:gQ),n≤L∧i=.int .i64 n∧wr=grow (aY Wx U us) g∧us.length=L∧Hid (oY ns n∧fh ns (ns.drop n) n us=fh ns ns 0 (List.replicate L false))) (fun i _=>L - (intOf i).toNat)
  case atStart=>exact⟨0,List.replicate L false,_,by omega,rfl,by rw [JD _ _ _ HxU.out];exact(eZ _).symm,by simp,hid ⟨fun i x h=>absurd h af,rfl⟩⟩
  case round=>
   obtain⟨n,us,g,hn,rfl,rfl,hul,hR⟩:=hrel;by_cases hlt:n<L
   ·have ct:n<ns.length:=by have:=HL.out;omega
    have hstep:=Th w Wx p c ns Hs.out Hc.out Ha.out Hl.out n ct hR.out.1 K1 K2 U us g nw LL.out af ltU n13 n23 (by rw [←HL.out];exact HxL.out) (by rw [←HL.out];exact Hx1.out) Hx2.out;have hdr:ns.drop n=ns[n]::ns.drop (n+1):=List.drop_eq_getElem_cons ct;have n0:(0:Int)≤(n:Int):=af;have n1:(n:Int)<(L:Int):=af;have hmf:∀(fn:Fn) (first cap:Array Value) (w:World),(Instr.makeFunc fn first cap).run Tryz.prog w=.ok (.func fn first cap) w:=fun _ _ _ _=>rfl
    cases ZO:jP ns ns[n] n us with
    |none=>
     rw [ZO] at hstep;obtain⟨v,hv⟩:=zx (l:=ns.drop (n+1)) ZO;have Hb:=hid (uKr (v:=v) (by rw [hR.out.2,HL.out]) (by rw [hdr];exact hv));have Tj:=hid hstep;clear hstep ZO hv hdr;go_wp2_with (go_at_call 90;((with_reducible refine Tj.out.mono ?_));rintro e w' ⟨rfl,us3,g2,rfl⟩);exact Tk
    |some cU=>
     rw [ZO] at hstep;obtain⟨hk,ho⟩:=AY ZO;have hvn:=wL hk ho;have hlen:=qI n _ _ _ hk;have hsc:=Di (l:=ns.drop (n+1)) hk ho;rw [←hdr,hR.out.2] at hsc;have Hn:Hid (oY ns (n+1)∧fh ns (ns.drop (n+1)) (n+1) cU=fh ns ns 0 (List.replicate L false)):=hid ⟨fun i x hi hx=>by
      by_cases AJ:i<n
      ·exact hR.out.1 i x AJ hx
      ·obtain rfl:i=n:=by omega
       rw [List.getElem?_eq_getElem ct] at hx;cases hx;exact hvn,hsc.symm⟩
     have Tj:=hid hstep;clear hstep ZO hdr hk ho hvn hsc;go_wp2_with (go_at_call 90;((with_reducible refine Tj.out.mono ?_));rintro e w' ⟨rfl,g2,rfl⟩);go_roundw
     case rel=>exact⟨n+1,cU,g2,by omega,by go_num,rfl,by omega,Hn⟩
     case measure=>simp [intOf];omega
   ·obtain rfl:n=L:=by omega
    have eA:bg ns=if n=0 then((0:Int),(60:Int)) else if p7 ns us then(if 200<lB ns then(0,61) else(0,0)) else((n:Int) - 1,60):=by
     exact Rb
    by_cases xR:n=0
    ·rw [if_pos xR] at eA;have Hb:=hid eA;have BJ:(n:Int) - 1<0:=af;clear eA;go_wp2;exact Tk
    rw [if_neg xR] at eA;have Hck:=hid eA;have BJ:¬((n:Int) - 1<0):=af;clear eA;go_wp2;go_loopw [34] (fun i wr=>∃(k:Nat) (g2:gQ),k≤n∧i=.int .i64 k∧wr=grow (aY Wx U us) g2∧Hid (∀m<k,(decide ((aq ns m=1)↔(m+1=ns.length)) && decide (us.getD m false=decide (m+1≠ns.length)))=true)) (fun i _=>n - (intOf i).toNat)
    case atStart=>exact⟨0,g,by omega,rfl,rfl,hid fun m h=>absurd h af⟩
    case round=>
     obtain⟨k,g2,hk,rfl,rfl,hK⟩:=hrel;by_cases Ra:k<n
     ·have oK:k<ns.length:=by have:=HL.out;omega
      obtain⟨b,o,rfl,hb,hx,hf,c0,c1,c2,c3⟩:=bh Ha.out oK;have hka:=aL hx;rw [←hka] at c0;replace c0:=(LL.out.cell (p:=⟨b,_,none⟩) hb).trans c0;replace c1:=(LL.out.cell (p:=⟨b,_,none⟩) hb).trans c1;replace c2:=(LL.out.cell (p:=⟨b,_,none⟩) hb).trans c2;replace c3:=(LL.out.cell (p:=⟨b,_,none⟩) hb).trans c3;have bU:¬b=U:=af;have bw:b<Wx.heap.size:=by have:=LL.out.size;omega
      have alz:k<us.length:=af;have Xe:us[k]?=some (us.getD k false):=Rc;have hu2:us[k]=us.getD k false:=Rc;have k0:(0:Int)≤(k:Int):=af;have k1:(k:Int)<(n:Int):=af;obtain⟨kd,bW⟩:∃kd,kd=aq ns (k:Int):=⟨_,rfl⟩;obtain⟨ub,AP⟩:∃ub,ub=us.getD k false:=⟨_,rfl⟩;rw [←bW] at c0;rw [←AP] at Xe hu2;have kH:=hid bW;have Hub:=hid AP;clear hka bW AP hx hf;generalize ns[k]=x at*;have hno:¬((decide ((kd=1)↔(k+1=ns.length)) && decide (ub=decide (k+1≠ns.length)))=true)→bg ns=((n:Int) - 1,60):=fun h=>by
       exact Re
      have yM:(decide ((kd=1)↔(k+1=ns.length)) && decide (ub=decide (k+1≠ns.length)))=true→∀m<k+1,(decide ((aq ns m=1)↔(m+1=ns.length)) && decide (us.getD m false=decide (m+1≠ns.length)))=true:=fun h m hm=>by
       exact Rh
      by_cases hd:kd=1
      ·subst hd;by_cases hlk:(k:Int)=(n:Int) - 1
       ·have cD:k+1=ns.length:=by have:=HL.out;omega
        have BH:((k:Int)==(n:Int) - 1)=true:=bt;have yX:¬(k:Int)<(n:Int) - 1:=af;clear hlk;cases ub with
        |true=>
         exact J7
        |false=>
         have Hy:=hid (yM (by simp [cD]));obtain⟨g9,h9⟩:=aC (bA (bG (Below.refl _ (aY Wx U us)) g2) (.cells #[.int .i64 1,.string x.text,.slice x.kp x.kids.length x.aP,.int .i64 x.place] 56));exact Tl
       ·have cD:¬k+1=ns.length:=by have:=HL.out;omega
        have BH:=cW hlk;have yX:(k:Int)<(n:Int) - 1:=af;clear hlk;cases ub with
        |true=>
         exact J7
        |false=>
         exact J7
      ·have xy:=cW hd;by_cases hlk:(k:Int)=(n:Int) - 1
       ·have cD:k+1=ns.length:=by have:=HL.out;omega
        have BH:((k:Int)==(n:Int) - 1)=true:=bt;have yX:¬(k:Int)<(n:Int) - 1:=af;clear hlk;cases ub with
        |true=>
         exact J8
        |false=>
         exact J8
       ·have cD:¬k+1=ns.length:=by have:=HL.out;omega
        have BH:=cW hlk;have yX:(k:Int)<(n:Int) - 1:=af;clear hlk;cases ub with
        |true=>
         have Hy:=hid (yM (by simp [cD,hd]));obtain⟨g9,h9⟩:=aC (bA (bG (Below.refl _ (aY Wx U us)) g2) (.cells #[.int .i64 kd,.string x.text,.slice x.kp x.kids.length x.aP,.int .i64 x.place] 56));exact Tl
        |false=>
         exact J8
     ·obtain rfl:k=n:=by omega
      have FJ:p7 ns us=true:=by
       exact Rk
      have eA:=Hck.out;rw [if_pos FJ] at eA;have Rl:Hid (∀W,Below w.heap.size w W→Calls Tryz.prog 93 #[.slice p k c] W fun e w'=>e=.returned (.int .i64 (lB ns))∧Below W.heap.size W w'):=hid fun W hW=>by
       have h:=SF p c ns W (ay.later Ha.out hW) Hs.out;rw [←HL.out] at h;exact h
      generalize lB ns=dp at*;by_cases Lu:200<dp
      ·rw [if_pos Lu] at eA;exact ad4
      ·rw [if_neg Lu] at eA;exact ad4
end Go.Proofs.YtjchnliaglecoaaGreatDoor
