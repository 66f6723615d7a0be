/- A part of the proof. Conditions: none. -/
import Derived.Test.YtbgjanmheagilaaGreatDoorZz
import Derived.Test.YtbgjanmheagilaaGreatDoorApX
import Derived.Test.YtbgjanmheagilaaGreatDoorSvX
import Derived.Test.YtbgjanmheagilaaGreatDoorDr
set_option linter.unusedVariables false
set_option linter.unusedSimpArgs false
set_option maxRecDepth 100000
set_option maxHeartbeats 8000000
namespace Go.Proofs.YtbgjanmheagilaaGreatDoor
open Go Go.RowKit Go.Nodes
def bZ (n:Nat):List Int→List Bool→Option (List Bool)
 |[],u=>some u
 |k::l,u=>if 0≤k∧k<n∧u.getD k.toNat false=false then bZ n l (u.set k.toNat true) else none
def okB (ns:List Nd) (x:Nd):Bool:=
 decide (0≤x.place) && (decide (1≤x.kind∧x.kind≤36) && bE (aI x.kind.toNat) (aO ns x.kids)) && mJ x.kind.toNat x.text.data.toList x.kids.length && fZ ns x
def cz (ns:List Nd):List Nd→Nat→List Bool→Option Nat × List Bool
 |[],_,u=>(none,u)
 |x::l,n,u=>match bZ n x.kids u with
  |none=>(some n,u)
  |some u2=>if okB ns x then cz ns l (n+1) u2 else(some n,u2)
theorem vg (n:Nat) (l:List Int) (j:Nat) (hj:j<l.length) (u:List Bool):bZ n (l.drop j) u=if 0≤l[j]∧l[j]<n∧u.getD l[j].toNat false=false then bZ n (l.drop (j+1)) (u.set l[j].toNat true) else none:=by
 rw [List.drop_eq_getElem_cons hj];rfl
theorem rq (n:Nat):∀(l:List Int) (u v:List Bool),bZ n l u=some v→v.length=u.length
 |[],u,v,h=>by simp [bZ] at h;rw [h]
 |k::l,u,v,h=>by
  unfold bZ at h;split at h
  ·have:=rq n l _ _ h;simpa using this
  ·cases h
theorem fF (n:Nat):∀(l:List Int) (u v:List Bool),bZ n l u=some v→∀k∈l,0≤k∧k<n
 |[],_,_,_,k,hk=>by cases hk
 |a::l,u,v,h,k,hk=>by
  unfold bZ at h;split at h
  ·rename_i h2;rcases List.mem_cons.1 hk with rfl|hk
   ·exact⟨h2.1,h2.2.1⟩
   ·exact fF n l _ _ h k hk
  ·cases h
theorem ct {B:Nat} {w:World} {v:Value} {l:List Int} (h:Ints B w v l) {n i:Nat} (x:Value) (hn:n<B):Ints B (w.setCell ⟨n,i,none⟩ x) v l:=by
 obtain⟨h1,h2⟩:=h;refine⟨h1, ?_⟩;rcases h2 with h2|⟨g,cap,cur,hv,hg,hh,hr⟩
 ·exact .inl h2
 ·exact .inr ⟨g,cap,cur,hv,hg,by rw [Below.heap_setCell _ _ _ _ aV];exact hh,hr⟩
theorem MF (w:World) (cs:Array Value) (g g2:eo) (box:Obj) (k:Nat) (v:Value):(grow ((grow (w.alloc (.cells cs 4)) g).alloc box) g2).setCell ⟨w.heap.size,k,none⟩ v=grow ((grow (w.alloc (.cells (cs.setIfInBounds k v) 4)) g).alloc box) g2:=by
 rw [qa _ _ _ _ _ aV,World.setCell_alloc_past _ _ _ _ aV,qa _ _ _ _ _ ai,World.setCell_alloc_at _ _ _ _ _ rfl]
theorem Tryz.MG:(Tryz.prog.info? 4).map (fun i=>(i.zero,i.size,i.bytes))=some (some (.bool false),1,1):=by kernel_rfl
def pn (n e1:Int) (w:World) (e:Ending) (w':World):Prop:=e=.returned (.tuple #[.int .i64 n,.int .i64 e1])∧Below w.heap.size w w'
def jA (ns:List Nd) (u:List Bool):Bool:=(List.range ns.length).all fun n=>decide ((ag ns n=1)↔(n+1=ns.length)) && decide (u.getD n false=decide (n+1≠ns.length))
def aS (ns:List Nd):Int × Int:=match cz ns ns 0 (List.replicate ns.length false) with
 |(some n,_)=>(n,60)
 |(none,u)=>if ns.length=0 then(0,60) else if jA ns u then(if 200<eD ns then(0,61) else(0,0)) else((ns.length:Int) - 1,60)
theorem ru {ns:List Nd} {n:Nat} {us v:List Bool} (h:cz ns (ns.drop n) n us=cz ns ns 0 (List.replicate ns.length false)) (h2:cz ns (ns.drop n) n us=(some n,v)):aS ns=((n:Int),60):=by
 unfold aS;rw [←h,h2]
theorem bR.later {w w':World} {p:Option Addr} {xs:List Int} (h:bR w p xs) (hb:Below w.heap.size w w'):bR w' p xs:=by
 rcases h with h|⟨b,o,hp,UU,hc⟩
 ·exact .inl h
 ·exact .inr ⟨b,o,hp,Nat.lt_of_lt_of_le UU hb.size,fun i hi=>by rw [←hc i hi];simp only [World.cell?,hb.block b UU]⟩
theorem aj.later {w w':World} {p:Option Addr} {ns:List Nd} (h:aj w p ns) (hb:Below w.heap.size w w'):aj w' p ns:=by
 refine⟨h.1,fun x hx=>?_, ?_⟩
 ·obtain⟨h1,h2,h3,h4,h5,h6⟩:=h.2.1 x hx;exact⟨h1,h2,h3,h4,h5,bR.later h6 hb⟩
 ·rcases h.2.2 with h0|⟨b,o,hp,UU,hc⟩
  ·exact .inl h0
  ·exact .inr ⟨b,o,hp,Nat.lt_of_lt_of_le UU hb.size,fun i hi=>by
    have:=hc i hi;simp only [World.cell?,hb.block b UU] at this ⊢;exact this⟩
theorem EK {ns:List Nd} {n:Nat} {kids:List Int} (hv:iZ ns n) (hn:n≤ns.length) (hk:∀k∈kids,0≤k∧k<n):(aO ns kids).map Int.ofNat=kids.map (ag ns)∧∀k∈aO ns kids,0<k∧k<37:=by
 have key:∀k∈kids,1≤ag ns k∧ag ns k≤36:=fun k h=>by
  obtain⟨z,rfl⟩:∃z:Nat,k=(z:Int):=⟨k.toNat,by have:=hk k h;omega⟩;have hz:=hk _ h;have hx:ns[z]?=some (ns[z]'aa):=List.getElem?_eq_getElem aa;have h2:=hv z _ aa hx;rw [aR hx];exact⟨h2.k1,h2.JJ⟩
 constructor
 ·unfold aO;rw [List.map_map];refine List.map_congr_left fun k h=>?_
  have:=key k h;simp only [Function.comp,Int.ofNat_eq_natCast];omega
 ·intro k h;unfold aO at h;obtain⟨a,ha,rfl⟩:=List.mem_map.1 h;have:=key a ha;omega
theorem uA {ns l:List Nd} {n:Nat} {us aW:List Bool} {x:Nd} (hk:bZ n x.kids us=some aW) (hx:okB ns x=false):cz ns (x::l) n us=(some n,aW):=by
 unfold cz;simp only [hk,hx];rfl
theorem zF {ns l:List Nd} {n:Nat} {us aW:List Bool} {x:Nd} (hk:bZ n x.kids us=some aW) (hx:okB ns x=true):cz ns (x::l) n us=cz ns l (n+1) aW:=by
 rw [cz];simp only [hk,hx,if_true]
theorem uD (w:World) (p:Option Addr) (c:Nat) (ns:List Nd) (hs:Small ns) (hc:eZ ns) (ha:aj w p ns) (hl0:bu w):
  Calls Tryz.prog 24 #[.slice p ns.length c] w (pn (aS ns).1 (aS ns).2 w):=by
 obtain⟨iB,YI,YJ,YK,YL⟩:=info_parts Tryz.MG;have Ha:=hid ha;have Hs:=hid hs;have Hc:=hid hc;have Hl:=hid hl0;clear ha hs hc hl0;obtain⟨L,hL⟩:∃L,L=ns.length:=⟨_,rfl⟩;rw [←hL];have hL5:(L:Int)≤5000:=by have:=Hs.out.1;omega
 have HL:=hid hL;clear hL;go_enter Tryz.func24,Tryz.ntmps24;go_wp2_with (refine wpList_make_full _ rfl _ _ 69 rfl w.heap.size 4 iB (.bool false) 1 Tryz.underlying69 YI YJ YK .i64 .i64 _ _ L rfl rfl (by go_num) (by go_num) ?_ ?_ ?_ ?_)
 ·rw [YL];omega
 ·unfold maxLen;omega
 ·simp
 intro w1 hO hG;obtain⟨g1,rfl⟩:=pH hO hG ai;clear hO hG;have lV:(madeCells #[Value.bool false] L).toList=(List.replicate L false).map Value.bool:=by
  exact zx
 rw [lV];clear lV YI YJ YK YL;go_wp2;go_loopw [20] (fun i wr=>∃(n:Nat) (us:List Bool) (g:eo),n≤L∧i=.int .i64 n∧wr=grow (w.alloc (.cells (us.map Value.bool).toArray 4)) g∧us.length=L∧
  Hid (iZ ns n∧cz ns (ns.drop n) n us=cz ns ns 0 (List.replicate L false))) (fun i _=>L - (intOf i).toNat)
 case atStart=>exact⟨0,List.replicate L false,g1,by omega,rfl,by simp,by simp,hid ⟨fun i x h=>absurd h aa,rfl⟩⟩
 case round=>
  obtain⟨n,us,g,hn,rfl,rfl,Ll,hR⟩:=hrel;by_cases hlt:n<L
  ·have eO:n<ns.length:=by have:=HL.out;omega
   obtain⟨b,o,rfl,hb,hx,hf,c0,c1,c2,c3⟩:=aY Ha.out eO;have hsm:=Hs.out.2 ns[n] (List.getElem_mem eO);have bL:=Hc.out ns[n] (List.getElem_mem eO);have Hdr:=hid (List.drop_eq_getElem_cons eO);have Hx:=hid hx;have Hxe:Hid (ns[n]=ns[n]):=hid rfl;have n0:(0:Int)≤(n:Int):=aa;have n1:(n:Int)<(L:Int):=aa;obtain⟨q,hq⟩:∃q,q=ns[n].kids.length:=⟨_,rfl⟩;have Dn:(q:Int)≤20000:=by have:=hsm.1;omega
   have Hf:=hid hf.2.2.2.2.2;generalize JS:ns[n]=x at*;obtain⟨kind,text,kp,aC,kids,place⟩:=x;simp only at hsm bL c0 c1 c2 c3 hq Hf;rw [←hq] at c2;have RQ:=hid hsm;have sZ:=hid bL;have Hq:=hid hq;have Hxx:=hid JS;clear hsm bL hq hf hx JS;go_wp2;go_loopw [7,28] (fun v i w2=>∃(j:Nat) (aW:List Bool) (g2:eo),j≤q∧i=.int .i64 j∧aW.length=L∧
    w2=grow ((grow (w.alloc (.cells (aW.map Value.bool).toArray 4)) g).alloc (.cells #[.int .i64 kind,.string text,.slice kp q aC,.int .i64 place] 30)) g2∧
    Hid (Ints (w.heap.size+1+g.size+1) w2 v ((kids.map (ag ns)).take j)∧bZ n (kids.drop j) aW=bZ n kids us)) (fun _ i _=>q - (intOf i).toNat)
   case atStart=> 
    obtain⟨g0,h0⟩:=aA (Below.refl _ ((grow (w.alloc (.cells (us.map Value.bool).toArray 4)) g).alloc (.cells #[.int .i64 kind,.string text,.slice kp q aC,.int .i64 place] 30)));exact⟨0,us,g0,by omega,rfl,Ll,h0,hid ⟨⟨by simp,.inl ⟨rfl,by simp⟩⟩,rfl⟩⟩
   case round=>
    obtain⟨j,aW,g2,hj,rfl,ia,rfl,hI⟩:=hrel;by_cases Uv:j<q
    ·rcases Hf.out with ix|⟨bx,ox,RR,tP,sV⟩
     ·exact zV
     subst RR;have hjk:j<kids.length:=iJ;replace sV:=sV j hjk;have cX:=vg n kids j hjk aW;have Htk:=hid (List.take_succ_eq_append_getElem hjk);generalize kids[j]=u at*;have q0:(0:Int)≤(j:Int):=aa;have q1:(j:Int)<(q:Int):=aa;have eI:¬(0≤u∧u<n∧aW.getD u.toNat false=false)→aS ns=((n:Int),60):=fun hno=>by
      rw [if_neg hno,hI.out.2] at cX;refine ru (v:=us) (by rw [hR.out.2,HL.out]) ?_;rw [Hdr.out];unfold cz;simp only [cX]
     by_cases PZ:u<0
     ·have Hb:=hid (eI aa);exact MH
     by_cases Ga:(n:Int)≤u
     ·have Hb:=hid (eI aa);have hu2:0≤u:=aa;exact MH
     obtain⟨z,rfl⟩:∃z:Nat,u=(z:Int):=⟨u.toNat,by omega⟩;rw [Int.toNat_natCast] at eI cX;have hz1:z<aW.length:=aa;have hz2:aW[z]?=some (aW.getD z false):=by rw [List.getD,List.getElem?_eq_getElem hz1];rfl
     have YM:z<ns.length:=aa;obtain⟨b3,o3,h3,_,hx3,hf3,d0,_⟩:=aY Ha.out YM;have hk3:=aR hx3;cases h3;rw [←hk3] at d0;obtain⟨kz,XM⟩:∃kz,kz=ag ns (z:Int):=⟨_,rfl⟩;rw [←XM] at d0;have Hkz:=hid XM;clear XM;have z0:(0:Int)≤(z:Int):=aa;have z1:(z:Int)<(n:Int):=aa;have z2:(z:Int)<(L:Int):=aa;cases fN:aW.getD z false with
     |true=>
      have Hb:=hid (eI (by rw [fN];simp));rw [fN] at hz2;clear eI cX fN hf3 hx3 hk3;exact Vt
     |false=>
      rw [fN] at hz2;rw [if_pos ⟨z0,z1,fN⟩] at cX;have lF:=hid cX;clear eI cX fN hf3 hx3 hk3;go_wp2_with (at_builtin;go_loud (refine fc rfl _ _ rfl (w.heap.size+1+g.size+1) u7 ((kids.map (ag ns)).take j) kz (w.heap.size+1+g.size+1+g2.size) 1 rfl ?DT rfl ?FX ?Ki ?tW ?tX))
      case DT=>
       have h0:=ct hI.out.1 (i:=z) (.bool true) (n:=w.heap.size) aa;rw [MF,List.setIfInBounds_toArray] at h0;exact cC h0 (bA (Below.refl _ _) _)
      case Ki=>have:=RQ.out.1;first|omega|(simp;omega)
      case tW=>first|omega|(simp;omega)
      case tX=>
       intro v' w4 h1 h2 h3;have hb4:=Below.grown (bA (below_grow ((grow (w.alloc (.cells ((aW.map Value.bool).set z (.bool true)).toArray 4)) g).alloc (.cells #[.int .i64 kind,.string text,.slice (some ⟨bx,ox,none⟩) q aC,.int .i64 place] 30)) g2) _) h2 aV fun g hg=>hI.out.1.2.elim (fun h=>by rw [h.1] at hg;cases hg) fun⟨g',_,_,e,hle,_⟩=>by rw [e] at hg;cases hg;simpa using hle
       obtain⟨g3,rfl⟩:=aA hb4;clear hb4 h2 h3;have H1:=hid h1;clear h1;go_wp2;go_roundw
       case rel=>exact⟨j+1,aW.set z true,g3,by omega,by go_num,by simp [ia],by rw [List.map_set],hid ⟨by rw [←List.map_take,Htk.out,List.map_append,List.map_cons,List.map_nil,←Hkz.out,List.map_take];exact H1.out,lF.out.symm.trans hI.out.2⟩⟩
       case measure=>simp [intOf];omega
    ·obtain rfl:j=q:=by omega
     have eM:bZ n kids us=some aW:=by
      rw [←hI.out.2,Hq.out,List.drop_length];rfl
     have hown:=hI.out.1;rw [List.take_of_length_le (by rw [List.length_map];have:=Hq.out;omega)] at hown;have acR:=hid hown;have Dr:=hid eM;clear hI eM hown;have eI:okB ns ⟨kind,text,kp,aC,kids,place⟩=false→aS ns=((n:Int),60):=fun hno=>by
      refine ru (v:=aW) (by rw [hR.out.2,HL.out]) ?_;rw [Hdr.out];exact uA Dr.out hno
     obtain⟨pk,ck,hvv,hat⟩:=acR.out.out;rw [List.length_map,←Hq.out] at hvv;subst hvv;clear acR;have Hat:=hid hat;clear hat;have MI:Below w.heap.size w (grow ((grow (w.alloc (.cells (aW.map Value.bool).toArray 4)) g).alloc (.cells #[.int .i64 kind,.string text,.slice kp j aC,.int .i64 place] 30)) g2):=by
      repeat (first|exact Below.refl _ _|refine bG ?_ _|refine bI ?_ _ _|refine bA ?_ _)
     have Hwb:=hid MI;clear MI;by_cases hpl:place<0
     ·have Hb:=hid (eI (by unfold okB;simp only [decide_eq_false (show ¬(0:Int)≤place by omega),Bool.false_and]));clear eI;exact EL
     have ags:¬place<0:=hpl;by_cases hki:1≤kind∧kind≤36
     ·obtain⟨k,rfl⟩:∃k:Nat,kind=(k:Int):=⟨kind.toNat,by omega⟩;have tD:1≤k:=aa;have Bb:k≤36:=aa;have AZ:=EK hR.out.1 aa (fF n kids us aW Dr.out);obtain⟨kb,hkb⟩:∃kb,kb=bE (aI k) (aO ns kids):=⟨_,rfl⟩;have qZ:Hid (∀W,Below (grow ((grow (w.alloc (.cells (aW.map Value.bool).toArray 4)) g).alloc (.cells #[.int .i64 k,.string text,.slice kp j aC,.int .i64 place] 30)) g2).heap.size (grow ((grow (w.alloc (.cells (aW.map Value.bool).toArray 4)) g).alloc (.cells #[.int .i64 k,.string text,.slice kp j aC,.int .i64 place] 30)) g2) W→
        Calls Tryz.prog 42 #[.int .i64 (k:Int),.slice pk j ck] W fun e w'=>e=.returned (.bool kb)∧Below W.heap.size W w'):=hid fun W hW=>by
       rw [hkb];exact MJ W k tD Bb pk j ck aa _ (by simp [aO,Hq.out]) (by rw [AZ.1];exact bR.later Hat.out hW) AZ.2
      have Hkb:=hid hkb;have YN:=hid AZ.2;obtain⟨tb,RS⟩:∃tb,tb=mJ k text.data.toList j:=⟨_,rfl⟩;have MK:Hid (∀W,Below w.heap.size w W→Calls Tryz.prog 43 #[.agg #[.int .i64 (k:Int),.string text,.slice kp j aC,.int .i64 place]] W fun e w'=>e=.returned (.bool tb)∧Below W.heap.size W w'):=hid fun W hW=>by
       rw [RS];exact Mz k tD Bb text (by have:=RQ.out.2;omega) kp j aC place W (bu.later Hl.out hW)
      have Htb:=hid RS;have ve:okB ns ⟨k,text,kp,aC,kids,place⟩=(kb && tb && fZ ns ⟨k,text,kp,aC,kids,place⟩):=by
       unfold okB;simp only [decide_eq_true (show(0:Int)≤place by omega),decide_eq_true (show(1:Int)≤(k:Int)∧(k:Int)≤36 by omega),Bool.true_and,Int.toNat_natCast,hkb,RS,Hq.out]
      clear AZ hkb RS;cases kb with
      |false=>
       have Hb:=hid (eI (by rw [ve];rfl));clear eI ve;go_wp2_with (go_at_call 42;((with_reducible refine(qZ.out _ bP).mono ?_));rintro e w' ⟨rfl,hb⟩;obtain⟨g4,rfl⟩:=aA hb;clear hb);exact zW
      |true=>
       cases tb with
       |false=>
        have Hb:=hid (eI (by rw [ve];rfl));clear eI ve;go_wp2_with (first
         |(go_at_call 42;((with_reducible refine(qZ.out _ bP).mono ?_));rintro e w' ⟨rfl,hb⟩;obtain⟨g4,rfl⟩:=aA hb;clear hb)
         |(go_at_call 43;((with_reducible refine(MK.out _ bP).mono ?_));rintro e w' ⟨rfl,hb⟩;obtain⟨g5,rfl⟩:=aA hb;clear hb))
        exact zW
       |true=>
        have P8:∀W,Below w.heap.size w W→Calls Tryz.prog 44 #[.slice (some ⟨b,o,none⟩) L c,.int .i64 (n:Int)] W fun e w'=>e=.returned (.bool (fZ ns ⟨k,text,kp,aC,kids,place⟩))∧Below W.heap.size W w':=fun W hW=>by
         have h:=IP W (some ⟨b,o,none⟩) c ns Hs.out Hc.out (aj.later Ha.out hW) n eO hR.out.1;rw [Hxx.out,←HL.out] at h;exact h ⟨by simp only;omega,by simp only;omega,fF n kids us aW Dr.out,by rw [Int.toNat_natCast];exact Hkb.out.symm,by rw [Int.toNat_natCast];simp only;rw [←Hq.out];exact Htb.out.symm⟩
        obtain⟨eb,YO⟩:∃eb,eb=fZ ns ⟨k,text,kp,aC,kids,place⟩:=⟨_,rfl⟩;rw [←YO] at P8 ve;have acS:=hid P8;have Heb:=hid YO;clear P8 YO;cases eb with
        |false=>
         have Hb:=hid (eI (by rw [ve];rfl));clear eI ve;go_wp2_with (first
          |(go_at_call 42;((with_reducible refine(qZ.out _ bP).mono ?_));rintro e w' ⟨rfl,hb⟩;obtain⟨g4,rfl⟩:=aA hb;clear hb)
          |(go_at_call 43;((with_reducible refine(MK.out _ bP).mono ?_));rintro e w' ⟨rfl,hb⟩;obtain⟨g5,rfl⟩:=aA hb;clear hb)
          |(go_at_call 44;((with_reducible refine(acS.out _ bP).mono ?_));rintro e w' ⟨rfl,hb⟩;obtain⟨g6,rfl⟩:=aA hb;clear hb))
         exact zW
        |true=>
         have Hok:=hid ve;clear eI ve;go_wp2_with (first
          |(go_at_call 42;((with_reducible refine(qZ.out _ bP).mono ?_));rintro e w' ⟨rfl,hb⟩;obtain⟨g4,rfl⟩:=aA hb;clear hb)
          |(go_at_call 43;((with_reducible refine(MK.out _ bP).mono ?_));rintro e w' ⟨rfl,hb⟩;obtain⟨g5,rfl⟩:=aA hb;clear hb)
          |(go_at_call 44;((with_reducible refine(acS.out _ bP).mono ?_));rintro e w' ⟨rfl,hb⟩;obtain⟨g6,rfl⟩:=aA hb;clear hb))
         have hb7:Below (w.alloc (.cells (aW.map Value.bool).toArray 4)).heap.size (w.alloc (.cells (aW.map Value.bool).toArray 4)) (grow ((grow (w.alloc (.cells (aW.map Value.bool).toArray 4)) g).alloc (.cells #[.int .i64 k,.string text,.slice kp j aC,.int .i64 place] 30)) (((g2.app g4).app g5).app g6)):=by
          repeat (first|exact Below.refl _ _|refine bG ?_ _|refine bI ?_ _ _|refine bA ?_ _)
         obtain⟨g7,h7⟩:=aA hb7;refine⟨⟨n+1,aW,g7,by omega,by go_num,h7,ia,hid ⟨fun i x hi hx2=>?_, ?_⟩⟩,by simp [intOf];omega⟩
         ·by_cases F4:i<n
          ·exact hR.out.1 i x F4 hx2
          ·obtain rfl:i=n:=by omega
           rw [Hx.out] at hx2;cases hx2;exact⟨by simp only;omega,by simp only;omega,by simp only;omega,fF i kids us aW Dr.out,by rw [Int.toNat_natCast];exact Hkb.out.symm,by rw [Int.toNat_natCast];simp only;rw [←Hq.out];exact Htb.out.symm,Heb.out.symm⟩
         ·rw [←hR.out.2,Hdr.out];exact(zF Dr.out (by rw [Hok.out];rfl)).symm
     ·have Hb:=hid (eI (by unfold okB;simp only [decide_eq_false (show ¬((1:Int)≤kind∧kind≤36) from hki),Bool.and_false,Bool.false_and]));have XI:=hid (fun W=>IQ W kind aa pk j ck aa);clear eI;go_wp2_with (go_at_call 42;((with_reducible refine(XI.out _).mono ?_));rintro e w' ⟨rfl,hb⟩;obtain⟨g4,rfl⟩:=aA hb;clear hb);exact zW
  ·obtain rfl:n=L:=by omega
   have dy:aS ns=if n=0 then((0:Int),(60:Int)) else if jA ns us then(if 200<eD ns then(0,61) else(0,0)) else((n:Int) - 1,60):=by
    exact ML
   by_cases AY:n=0
   ·rw [if_pos AY] at dy;have Hb:=hid dy;have A4:(n:Int) - 1<0:=aa;clear dy;exact EL
   rw [if_neg AY] at dy;have Hck:=hid dy;have A4:¬((n:Int) - 1<0):=aa;clear dy;go_wp2;go_loop [88] (fun i=>∃k:Nat,k≤n∧i=.int .i64 k∧Hid (∀m<k,(decide ((ag ns m=1)↔(m+1=ns.length)) && decide (us.getD m false=decide (m+1≠ns.length)))=true)) (fun i=>n - (intOf i).toNat)
   case atStart=>exact⟨0,by omega,rfl,hid fun m h=>absurd h aa⟩
   case round=>
    obtain⟨k,hk,rfl,hK⟩:=hrel;by_cases XI:k<n
    ·have Bf:k<ns.length:=by have:=HL.out;omega
     obtain⟨b,o,rfl,hb,hx,hf,c0,c1,c2,c3⟩:=aY Ha.out Bf;have hka:=aR hx;rw [←hka] at c0;have acT:k<us.length:=aa;have Ga:us[k]=us.getD k false:=MM;have k0:(0:Int)≤(k:Int):=aa;have k1:(k:Int)<(n:Int):=aa;obtain⟨kd,cX⟩:∃kd,kd=ag ns (k:Int):=⟨_,rfl⟩;obtain⟨ub,fN⟩:∃ub,ub=us.getD k false:=⟨_,rfl⟩;rw [←cX] at c0;rw [←fN] at Ga;have lF:=hid cX;have A0:=hid fN;clear hka cX fN hx hf c1 c2 c3;have hno:¬((decide ((kd=1)↔(k+1=ns.length)) && decide (ub=decide (k+1≠ns.length)))=true)→aS ns=((n:Int) - 1,60):=fun h=>by
      exact MN
     have vh:(decide ((kd=1)↔(k+1=ns.length)) && decide (ub=decide (k+1≠ns.length)))=true→∀m<k+1,(decide ((ag ns m=1)↔(m+1=ns.length)) && decide (us.getD m false=decide (m+1≠ns.length)))=true:=fun h m hm=>by
      exact MO
     by_cases hd:kd=1
     ·subst hd;by_cases hlk:(n:Int) - 1=(k:Int)
      ·have Hlk:=hid hlk;have eA:k+1=ns.length:=dG;cases ub with
       |true=>
        have Hb:=hid (hno (by simp [eA]));exact Vu
       |false=>
        have Hy:=hid (vh (by simp [eA]));exact MP
      ·have eA:¬k+1=ns.length:=by have:=HL.out;omega
       have agt:=bK (fun e=>hlk e.symm:(k:Int)≠(n:Int) - 1);cases ub with
       |true=>
        exact Vv
       |false=>
        exact Vv
     ·have zE:=bK hd;by_cases hlk:(n:Int) - 1=(k:Int)
      ·have Hlk:=hid hlk;have eA:k+1=ns.length:=dG;cases ub with
       |true=>
        exact Vw
       |false=>
        exact Vw
      ·have eA:¬k+1=ns.length:=by have:=HL.out;omega
       have agt:=bK (fun e=>hlk e.symm:(k:Int)≠(n:Int) - 1);cases ub with
       |true=>
        have Hy:=hid (vh (by simp [eA,hd]));exact MP
       |false=>
        have Hb:=hid (hno (by simp [eA,hd]));clear hno vh eA;exact EL
    ·obtain rfl:k=n:=by omega
     have pz:jA ns us=true:=by
      exact MQ
     have dy:=Hck.out;rw [if_pos pz] at dy;have MR:Hid (∀W,Below w.heap.size w W→Calls Tryz.prog 45 #[.slice p k c] W fun e w'=>e=.returned (.int .i64 (eD ns))∧Below W.heap.size W w'):=hid fun W hW=>by
      have h:=IU p c ns W (aj.later Ha.out hW) Hs.out;rw [←HL.out] at h;exact h
     generalize eD ns=dp at*;by_cases F5:200<dp
     ·rw [if_pos F5] at dy;exact Vx
     ·rw [if_neg F5] at dy;exact Vx
end Go.Proofs.YtbgjanmheagilaaGreatDoor
/- A part of the proof. Conditions: none. -/
set_option maxRecDepth 100000
set_option maxHeartbeats 8000000
namespace Go.Proofs.YtbgjanmheagilaaGreatDoor
open Go Go.RowKit Go.Nodes
def aq (k:Int):Bool:=decide (31≤k) && decide (k≤36)
def Sound (ns:List Nd):Prop:=∀(i:Nat) (x:Nd),ns[i]?=some x→(∀k∈x.kids,0≤k∧k<i)∧1≤x.kind∧x.kind≤36∧(x.kind=36→0<x.kids.length)
theorem Ju {ns:List Nd} {x:Nd} (hf:bE (aI x.kind.toNat) (aO ns x.kids)=true) (h:x.kind=36):0<x.kids.length:=by
 have hl:(aO ns x.kids).length=x.kids.length:=by simp [aO]
 rw [←hl];rw [h] at hf;have:=gF hf ay;exact Nat.lt_of_lt_of_le ay this
theorem vV (ns:List Nd):∀(l:List Nd) (n:Nat) (u v:List Bool),ns.drop n=l→cz ns l n u=(none,v)→∀(i:Nat) (x:Nd),n≤i→ns[i]?=some x→(∀k∈x.kids,0≤k∧k<i)∧okB ns x=true
 |[],n,u,v,hd,h,i,x,hi,hx=>by
  have h1:ns.length≤n:=CF;have h2:=(List.getElem?_eq_some_iff.1 hx).1;omega
 |y::l,n,u,v,hd,h,i,x,hi,hx=>by
  unfold cz at h;have hn:n<ns.length:=by
   have:=congrArg List.length hd;simp at this;omega
  have hy:ns[n]?=some y:=by
   have:=List.drop_eq_getElem_cons hn;rw [hd] at this;rw [List.getElem?_eq_getElem hn];exact congrArg some (List.cons.inj this).1.symm
  split at h
  ·cases h
  ·rename_i u2 AU;split at h
   ·rename_i ve;by_cases e:i=n
    ·subst e;rw [hy] at hx;cases hx;exact⟨fF i _ _ _ AU,ve⟩
    ·refine vV ns l (n+1) u2 v ?_ h i x aa hx;rw [←List.drop_drop,hd];rfl
   ·cases h
theorem A6 {ns:List Nd} (h:(aS ns).2=0):Sound ns:=by
 unfold aS at h;split at h
 ·simp at h
 ·rename_i v hs;intro i x hx;obtain⟨h1,h2⟩:=vV ns ns 0 _ v rfl hs i x (Nat.zero_le _) hx;unfold okB at h2;simp only [Bool.and_eq_true,decide_eq_true_eq] at h2;obtain⟨⟨⟨_,⟨h3,h4⟩,h5⟩,_⟩,_⟩:=h2;exact⟨h1,h3,h4,Ju h5⟩
theorem jX (k:Int) (s:ByteArray) (kp:Option Addr) (n c:Nat) (aT:Int) (w:World):
  Calls Tryz.prog 30 #[.agg #[.int .i64 k,.string s,.slice kp n c,.int .i64 aT]] w fun e w'=>e=.returned (.bool (aq k))∧Below w.heap.size w w':=by
 by_cases h1:(31:Int)≤k
 ·by_cases h2:k≤36
  ·go_enter Tryz.func30,Tryz.ntmps30;go_wp2;go_ret;exact⟨by simp [aq,h1,h2],cH⟩
  ·have h2':(36:Int)<k:=by omega
   exact NC
 ·have Yi:k<31:=by omega
  exact NC
end Go.Proofs.YtbgjanmheagilaaGreatDoor