/- A part of the proof. Conditions: none. -/
import Derived.Test.YtbgjanmheagilaaGreatDoorZz
import Derived.Test.YtbgjanmheagilaaGreatDoorMoX
import Derived.Test.YtbgjanmheagilaaGreatDoorSvX
import Derived.Test.YtbgjanmheagilaaGreatDoorEaX
set_option linter.unusedVariables false
set_option linter.unusedSimpArgs false
set_option maxRecDepth 100000
set_option maxHeartbeats 8000000
namespace Go.Proofs.YtbgjanmheagilaaGreatDoor
open Go Go.RowKit Go.Nodes
theorem D8 (w:World) (p:Option Addr) (c:Nat) (ns:List Nd) (UA:(ns.length:Int)≤5000) (ha:aj w p ns) (N:Nat) (hN:N≤ns.length) (hv:iZ ns N) (text:ByteArray) (kp:Option Addr) (aC:Nat) (kids:List Int) (place:Int) (hf:bR w kp kids) (cD:0<kids.length) (dR:∀k∈kids,0≤k∧k<N):
  Calls Tryz.prog 94 #[.slice p ns.length c,F2 ⟨6,text,kp,aC,kids,place⟩] w fun e w'=>e=bV (decide (fO ns (kids.getD 0 0)=17∨fO ns (kids.getD 0 0)=21))∧Below w.heap.size w w':=by
 exact abK
theorem D9 (w:World) (p:Option Addr) (c:Nat) (ns:List Nd) (UA:(ns.length:Int)≤5000) (ha:aj w p ns) (N:Nat) (hN:N≤ns.length) (hv:iZ ns N) (text:ByteArray) (kp:Option Addr) (aC:Nat) (kids:List Int) (place:Int) (hf:bR w kp kids) (cD:0<kids.length) (dR:∀k∈kids,0≤k∧k<N):
  Calls Tryz.prog 94 #[.slice p ns.length c,F2 ⟨7,text,kp,aC,kids,place⟩] w fun e w'=>e=bV (decide (fO ns (kids.getD 0 0)=17∨fO ns (kids.getD 0 0)=21))∧Below w.heap.size w w':=by
 exact abK
def nP (ns:List Nd) (n:Int):ByteArray:=match ns[n.toNat]? with
 |some x=>x.text
 |none=>ByteArray.empty
theorem oA (ns:List Nd) (n:Int):(nP ns n).data.toList=aQ ns n:=by
 unfold nP aQ;cases ns[n.toNat]?<;>rfl
def Bt (ns:List Nd) (text:ByteArray) (kids:List Int):Bool:=if Dq.contains text.data.toList then decide (ag ns (kids.getD 0 0)=15) && dI (aQ ns (kids.getD 0 0)) else true
theorem zm (w:World) (p:Option Addr) (c:Nat) (ns:List Nd) (UA:(ns.length:Int)≤5000) (hs:Small ns) (ha:aj w p ns) (hl:bu w) (N:Nat) (hN:N≤ns.length) (text:ByteArray) (yS:text.size≤20000) (kp:Option Addr) (aC:Nat) (kids:List Int) (place:Int) (hf:bR w kp kids) (dR:∀k∈kids,0≤k∧k<N)
  (cD:Dq.contains text.data.toList=true→0<kids.length):
  Calls Tryz.prog 94 #[.slice p ns.length c,F2 ⟨21,text,kp,aC,kids,place⟩] w fun e w'=>e=bV (Bt ns text kids)∧Below w.heap.size w w':=by
 have HQ:Hid (∀W,Below w.heap.size w W→Calls Tryz.prog 125 #[.string text,.string ⟨#[114,101,97,100,32,119,114,105,116,101]⟩] W fun e w'=>e=.returned (.bool (Dq.contains text.data.toList))∧Below W.heap.size W w'):=hid fun W hW=>XF text aa W (hl.later hW)
 unfold Bt F2;simp only;by_cases AR:Dq.contains text.data.toList=true
 ·have fS:=cD AR;rcases hf with ix|⟨bk,ok,rfl,dz,dy⟩
  ·subst ix;simp at fS
  replace dy:=dy 0 fS;have eC:=dR (kids.getD 0 0) KA;obtain⟨z,hz⟩:∃z:Nat,kids.getD 0 0=(z:Int):=⟨(kids.getD 0 0).toNat,by omega⟩;rw [show kids[0]=(z:Int) by rw [←hz,List.getD,List.getElem?_eq_getElem fS];rfl,Nat.add_zero] at dy;rw [hz] at eC ⊢;rw [if_pos AR];rw [AR] at HQ;have hzl:z<ns.length:=aa;obtain⟨b2,o2,rfl,hb2,hx2,hf2,d0,d1,d2,d3⟩:=aY ha hzl;have hsz:=(hs.2 ns[z] (List.getElem_mem hzl)).2;rw [aR hx2,fT hx2];have Bu:Hid (∀W,Below w.heap.size w W→Calls Tryz.prog 130 #[.string ns[z].text] W fun e w2=>e=.returned (.bool (dI ns[z].text.data.toList))∧Below W.heap.size W w2):=hid fun W hW=>by
   have h:=rU ns[z].text aa W (hl.later hW);rw [Br] at h;exact h
  have z0:(0:Int)≤(z:Int):=aa;have z1:(z:Int)<(ns.length:Int):=aa;obtain⟨q,hq⟩:∃q,q=kids.length:=⟨_,rfl⟩;rw [←hq] at fS ⊢;have q1:(0:Int)<(q:Int):=aa;clear ha dR hz hq cD hx2 hf2 AR hl hs hsz d2 d3;generalize ns[z]=y at*;generalize ns.length=L at*;generalize y.kind=ky at*;generalize dI y.text.data.toList=ch at*;by_cases HZ:ky=15
  ·subst HZ;simp only [decide_true,Bool.true_and];cases ch with
   |true=>
    go_enter Tryz.func94,Tryz.ntmps94;go_wp2_with (first
     |(go_at_call 125;((with_reducible refine(HQ.out _ bP).mono ?_));rintro e w' ⟨rfl,hb⟩;obtain⟨g1,rfl⟩:=aA hb;clear hb)
     |(go_at_call 130;((with_reducible refine(Bu.out _ bP).mono ?_));rintro e w' ⟨rfl,hb⟩;obtain⟨g2,rfl⟩:=aA hb;clear hb)
     |(go_at_call 91;((with_reducible refine(cO _).mono ?_));rintro e w' ⟨rfl,hw⟩;rw [hw];clear hw w'))
    exact KB
   |false=>
    go_enter Tryz.func94,Tryz.ntmps94;go_wp2_with (first
     |(go_at_call 125;((with_reducible refine(HQ.out _ bP).mono ?_));rintro e w' ⟨rfl,hb⟩;obtain⟨g1,rfl⟩:=aA hb;clear hb)
     |(go_at_call 130;((with_reducible refine(Bu.out _ bP).mono ?_));rintro e w' ⟨rfl,hb⟩;obtain⟨g2,rfl⟩:=aA hb;clear hb)
     |(go_at_call 91;((with_reducible refine(gB _).mono ?_));rintro e w' ⟨rfl,hw⟩;rw [hw];clear hw w'))
    exact KC
  ·have afx:=bK HZ;rw [decide_eq_false HZ,Bool.false_and];clear HZ;go_enter Tryz.func94,Tryz.ntmps94;go_wp2_with (first
    |(go_at_call 125;((with_reducible refine(HQ.out _ bP).mono ?_));rintro e w' ⟨rfl,hb⟩;obtain⟨g1,rfl⟩:=aA hb;clear hb)
    |(go_at_call 91;((with_reducible refine(gB _).mono ?_));rintro e w' ⟨rfl,hw⟩;rw [hw];clear hw w'))
   exact KC
 ·rw [if_neg AR];rw [show Dq.contains text.data.toList=false by simpa using AR] at HQ;clear AR ha dR cD hf hl;generalize ns.length=L at*;generalize kids.length=q at*;go_enter Tryz.func94,Tryz.ntmps94;go_wp2_with (go_at_call 125;((with_reducible refine(HQ.out _ bP).mono ?_));rintro e w' ⟨rfl,hb⟩;obtain⟨g1,rfl⟩:=aA hb;clear hb);exact KB
theorem Bv {w W:World} {p kp:Option Addr} {ns:List Nd} {kids:List Int} (ha:aj w p ns) (hf:bR w kp kids) (hW:Below w.heap.size w W) (N:Nat) (hN:N≤ns.length) (l:List Int) (hp:l<+:kids) (dR:∀k∈l,0≤k∧k<N):zn W p kp ns.length (l.map (nP ns)):=by
 intro i t hi;rw [List.getElem?_map] at hi;cases hg:l[i]? with
 |none=>rw [hg] at hi;cases hi
 |some k=>
  rw [hg] at hi;simp only [Option.map_some,Option.some.injEq] at hi;obtain⟨lB,hgk⟩:=List.getElem?_eq_some_iff.1 hg;have F4:=dR k (List.mem_of_getElem? hg);obtain⟨z,rfl⟩:∃z:Nat,k=(z:Int):=⟨k.toNat,by omega⟩;have hzl:z<ns.length:=aa;obtain⟨b2,o2,rfl,hb2,hx2,hf2,d0,d1,d2,d3⟩:=aY ha hzl;have hlk:=hp.length_le;rcases hf with ix|⟨bk,ok,rfl,dz,dy⟩
  ·subst ix;simp at hlk;subst hlk;simp at lB
  have KD:=dy i aa;rw [show kids[i]'aa=(z:Int) by rw [←hgk];obtain⟨r,hr⟩:=hp;subst hr;simp [List.getElem_append,lB]] at KD;refine⟨b2,o2,bk,ok,z,rfl,rfl,by have:=hW.size;omega,by have:=hW.size;omega,hzl,(hW.cell (p:=⟨bk,ok+i,none⟩) dz).trans KD, ?_⟩;rw [←hi];unfold nP;rw [Int.toNat_natCast,hx2];exact(hW.cell (p:=⟨b2,o2+z*4+1,none⟩) hb2).trans d1
theorem uj {ns:List Nd} (hs:Small ns) (k:Int):(nP ns k).size≤20000:=by
 unfold nP;cases h:ns[k.toNat]? with
 |none=>simp
 |some x=>exact(hs.2 x (List.mem_of_getElem? h)).2
theorem Ea (w:World) (p:Option Addr) (c:Nat) (ns:List Nd) (UA:(ns.length:Int)≤5000) (hs:Small ns) (ha:aj w p ns) (N:Nat) (hN:N≤ns.length) (text:ByteArray) (kp:Option Addr) (aC:Nat) (kids:List Int) (place:Int) (hf:bR w kp kids) (eM:(kids.length:Int)≤20000) (dR:∀k∈kids,0≤k∧k<N):
  Calls Tryz.prog 94 #[.slice p ns.length c,F2 ⟨32,text,kp,aC,kids,place⟩] w fun e w'=>e=bV (decide ((kids.map (aQ ns)).Nodup))∧Below w.heap.size w w':=by
 unfold F2;simp only;have Hun:Hid (∀W,Below w.heap.size w W→Calls Tryz.prog 131 #[.slice p ns.length c,.slice kp kids.length aC,.func (.func 132) #[] #[]] W fun e w'=>e=.returned (.bool (decide ((kids.map (aQ ns)).Nodup)))∧Below W.heap.size W w'):=hid fun W hW=>by
  have h:=Eb W p kp ns.length c kids.length aC UA eM (kids.map (nP ns)) ai (Bv ha hf hW N hN kids (List.prefix_refl _) dR) (fun s h=>by obtain⟨k,_,rfl⟩:=List.mem_map.1 h;exact uj hs k);rw [List.map_map] at h;rw [show((fun s:ByteArray=>s.data.toList) ∘ nP ns)=aQ ns from funext fun k=>oA ns k] at h;exact h
 clear ha hf dR hs;generalize decide ((kids.map (aQ ns)).Nodup)=R at*;generalize ns.length=L at*;generalize kids.length=q at*;exact UC
theorem zo (w:World) (p:Option Addr) (c:Nat) (ns:List Nd) (UA:(ns.length:Int)≤5000) (hs:Small ns) (ha:aj w p ns) (N:Nat) (hN:N≤ns.length) (text:ByteArray) (kp:Option Addr) (aC:Nat) (kids:List Int) (place:Int) (hf:bR w kp kids) (eM:(kids.length:Int)≤20000) (dR:∀k∈kids,0≤k∧k<N)
  (cD:0<kids.length) (bL:kids.length≤aC) (wL:∀k∈kids.dropLast,0<(aQ ns k).length):
  Calls Tryz.prog 94 #[.slice p ns.length c,F2 ⟨1,text,kp,aC,kids,place⟩] w fun e w'=>e=bV (decide ((kids.dropLast.map (fun k=>(aQ ns k).take 1)).Nodup))∧Below w.heap.size w w':=by
 unfold F2;simp only;obtain⟨q,hq⟩:∃q,q+1=kids.length:=⟨kids.length - 1,by omega⟩;have Hun:Hid (∀W,Below w.heap.size w W→Calls Tryz.prog 131 #[.slice p ns.length c,.slice kp q aC,.func (.func 133) #[] #[]] W fun e w'=>e=.returned (.bool (decide ((kids.dropLast.map (fun k=>(aQ ns k).take 1)).Nodup)))∧Below W.heap.size W w'):=hid fun W hW=>by
  have h:=Ec W p kp ns.length c q aC UA aa (kids.dropLast.map (nP ns)) aV (Bv ha hf hW N hN kids.dropLast (List.dropLast_prefix _) (fun k hk=>dR k (List.dropLast_subset _ hk))) (fun s h=>by
   obtain⟨k,hk,rfl⟩:=List.mem_map.1 h;have h2:=wL k hk;rw [←oA] at h2;exact⟨by simpa using h2,uj hs k⟩)
  rw [List.map_map] at h;rw [show((fun s:ByteArray=>s.data.toList.take 1) ∘ nP ns)=(fun k=>(aQ ns k).take 1) from funext fun k=>by simp only [Function.comp,oA]] at h;exact h
 clear ha hf dR hs wL cD;generalize decide ((kids.dropLast.map (fun k=>(aQ ns k).take 1)).Nodup)=R at*;generalize ns.length=L at*;rw [←hq] at bL eM ⊢;clear hq;have q0:(0:Int)≤(q:Int):=aa;have q1:(q:Int)≤(aC:Int):=aa;exact UC
end Go.Proofs.YtbgjanmheagilaaGreatDoor
/- A part of the proof. Conditions: none. -/
set_option maxRecDepth 100000
set_option maxHeartbeats 8000000
namespace Go.Proofs.YtbgjanmheagilaaGreatDoor
open Go Go.RowKit Go.Nodes
theorem Nf (w:World) (p:Option Addr) (c:Nat) (ns:List Nd) (hs:Small ns) (ha:aj w p ns) (hl:bu w) (n:Nat) (hn:n<ns.length) (hv:iZ ns n) (x:Nd) (hf:bR w x.kp x.kids) (hsz:x.kids.length≤20000) (yS:x.text.size≤20000) (bL:x.kids.length≤x.aC) (hx:O8 ns n x):
  Calls Tryz.prog 94 #[.slice p ns.length c,F2 x] w fun e w'=>e=bV (fZ ns x)∧Below w.heap.size w w':=by
 have hL:(ns.length:Int)≤5000:=by have:=hs.1;omega
 have eM:(x.kids.length:Int)≤20000:=aa;unfold fZ;obtain⟨kind,text,kp,aC,kids,place⟩:=x;have cX:=hx.kids;simp only at hf hsz yS bL eM cX ⊢;by_cases h3:kind=3
 ·rw [if_pos h3];subst h3;exact EP w p c ns hL ha n hn text kp aC kids place hf eM cX
 rw [if_neg h3];by_cases h67:kind=6∨kind=7
 ·rw [if_pos h67];have cD:0<kids.length:=pX hx.fits (by simp only;omega);rcases h67 with rfl|rfl
  ·exact D8 w p c ns hL ha n aa hv text kp aC kids place hf cD cX
  ·exact D9 w p c ns hL ha n aa hv text kp aC kids place hf cD cX
 rw [if_neg h67];by_cases Io:kind=21
 ·rw [if_pos Io];subst Io;refine zm w p c ns hL hs ha hl n aa text yS kp aC kids place hf cX fun h=>?_
  have h2:bn text.data.toList=(kids.length:Int):=of_decide_eq_true hx.text;have:=Xg h;omega
 rw [if_neg Io];by_cases Dy:kind=32
 ·rw [if_pos Dy];subst Dy;exact Ea w p c ns hL hs ha n aa text kp aC kids place hf eM cX
 rw [if_neg Dy];by_cases h1:kind=1
 ·rw [if_pos h1];subst h1;exact zo w p c ns hL hs ha n aa text kp aC kids place hf eM cX (pX hx.fits ai) bL (yC hx hv aa rfl)
 rw [if_neg h1];exact EO w p ns.length c ⟨kind,text,kp,aC,kids,place⟩ ⟨h1,h3,by simp only;omega,by simp only;omega,Io,Dy⟩
end Go.Proofs.YtbgjanmheagilaaGreatDoor
/- A part of the proof. Conditions: none. -/
set_option maxRecDepth 100000
set_option maxHeartbeats 8000000
namespace Go.Proofs.YtbgjanmheagilaaGreatDoor
open Go Go.RowKit Go.Nodes
def aM (W:World) (U:Nat) (us:List Bool):World:={W with heap:=W.heap.setIfInBounds U (.cells (us.map Value.bool).toArray 4 (0,0))}
@[simp, go_sem] theorem oQ (W : World) (U : Nat) (us : List Bool) : (aM W U us).heap.size = W.heap.size := by simp [aM]
theorem kO (W:World) (U:Nat) (us:List Bool) (b:Nat) (h:¬b=U):(aM W U us).heap[b]?=W.heap[b]?:=by
 have h':U≠b:=fun e=>h e.symm
 simp [aM,Array.getElem?_setIfInBounds,h']
theorem lq (W:World) (U:Nat) (us:List Bool) (h:U<W.heap.size):(aM W U us).heap[U]?=some (.cells (us.map Value.bool).toArray 4 (0,0)):=by
 simp [aM,h]
@[go_sem] theorem aad (W : World) (U : Nat) (us : List Bool) (b i : Nat) (h : ¬ b = U) : (aM W U us).cell? ⟨b, i, none⟩ = W.cell? ⟨b, i, none⟩ := World.cell?_of_block (w := W) (kO W U us b h)
@[go_sem] theorem JT (W : World) (U : Nat) (us : List Bool) (i : Nat) (h : U < W.heap.size) : (aM W U us).cell? ⟨U, i, none⟩ = us[i]?.map Value.bool := by
 simp [World.cell?,lq W U us h]
@[go_sem] theorem GK (W : World) (U : Nat) (us : List Bool) (i : Nat) (h : U < W.heap.size) : (aM W U us).frozen? ⟨U, i, none⟩ = false := by
 simp [World.frozen?,lq W U us h]
@[go_sem] theorem PT (W : World) (U : Nat) (us : List Bool) (i : Nat) (x : Bool) (h : U < W.heap.size) : (aM W U us).setCell ⟨U, i, none⟩ (.bool x) = aM W U (us.set i x) := by
 simp only [World.setCell,aM];congr 1;apply Array.ext_getElem?;intro k;simp only [Array.getElem?_modify,Array.getElem?_setIfInBounds];by_cases e:U=k
 ·subst e;simp [h,List.map_set]
 ·simp [e]
theorem E8 (W:World) (U:Nat) (us:List Bool) (h:W.heap[U]?=some (.cells (us.map Value.bool).toArray 4 (0,0))):aM W U us=W:=by
 have hlt:=(Array.getElem?_eq_some_iff.1 h).1;unfold aM;congr 1;apply Array.ext_getElem?;intro k;by_cases e:U=k
 ·subst e;simp [hlt,←h]
 ·simp [Array.getElem?_setIfInBounds,e]
theorem mQ (W:World) (U:Nat) (us vs:List Bool):aM (aM W U us) U vs=aM W U vs:=by
 simp only [aM];congr 1;apply Array.ext_getElem?;intro k;simp only [Array.getElem?_setIfInBounds,Array.size_setIfInBounds];by_cases e:U=k
 ·subst e;simp
 ·simp [e]
theorem oU (W:World) (g:eo) (U:Nat) (us:List Bool) (h:U<W.heap.size):aM (grow W g) U us=grow (aM W U us) g:=by
 simp only [aM,grow];congr 1;apply Array.ext_getElem?;intro k;simp only [Array.getElem?_setIfInBounds,Array.getElem?_append,Array.size_append,Array.size_setIfInBounds];by_cases e:U=k
 ·subst e;simp [h];omega
 ·simp [e]
theorem dM (W:World) (o:Obj) (U:Nat) (us:List Bool) (h:U<W.heap.size):aM (W.alloc o) U us=(aM W U us).alloc o:=by
 simp only [aM,World.alloc];congr 1;apply Array.ext_getElem?;intro k;simp only [Array.getElem?_setIfInBounds,Array.getElem?_push,Array.size_push,Array.size_setIfInBounds];by_cases e:U=k
 ·subst e;have h2:¬U=W.heap.size:=aa;have h3:U<W.heap.size+1:=aa;simp [h,h2,h3]
 ·simp [e]
theorem jn {w W:World} {U:Nat} {us:List Bool} (hW:Below w.heap.size w W) (hU:w.heap.size≤U):Below w.heap.size w (aM W U us):=by
 obtain⟨h1,h2,h3,h4,h5⟩:=hW;exact⟨h1,h2,h3,by simpa using h4,fun k hk=>by rw [kO _ _ _ _ aa];exact h5 k hk⟩
end Go.Proofs.YtbgjanmheagilaaGreatDoor