/- A part of the proof. Conditions: none. -/
import Derived.Test.YtjchnliaglecoaaGreatDoorZz
import Derived.Test.YtjchnliaglecoaaGreatDoorApX
import Derived.Test.YtjchnliaglecoaaGreatDoorSvX
import Derived.Test.YtjchnliaglecoaaGreatDoorDr
set_option linter.unusedVariables false
set_option linter.unusedSimpArgs false
set_option maxRecDepth 100000
set_option maxHeartbeats 8000000
namespace Go.Proofs.YtjchnliaglecoaaGreatDoor
open Go Go.RowKit Go.Nodes
def dS (n:Nat):List Int→List Bool→Option (List Bool)
 |[],u=>some u
 |k::l,u=>if 0≤k∧k<n∧u.getD k.toNat false=false then dS n l (u.set k.toNat true) else none
def okB (ns:List Nd) (x:Nd):Bool:=
 decide (0≤x.place) && (decide (1≤x.kind∧x.kind≤36) && ep (bY x.kind.toNat) (bJ ns x.kids)) && rT x.kind.toNat x.text.data.toList x.kids.length && jD ns x
def eF (ns:List Nd):List Nd→Nat→List Bool→Option Nat × List Bool
 |[],_,u=>(none,u)
 |x::l,n,u=>match dS n x.kids u with
  |none=>(some n,u)
  |some u2=>if okB ns x then eF ns l (n+1) u2 else(some n,u2)
theorem uL (n:Nat) (l:List Int) (j:Nat) (hj:j<l.length) (u:List Bool):dS n (l.drop j) u=if 0≤l[j]∧l[j]<n∧u.getD l[j].toNat false=false then dS n (l.drop (j+1)) (u.set l[j].toNat true) else none:=by
 rw [List.drop_eq_getElem_cons hj];rfl
theorem qQ (n:Nat):∀(l:List Int) (u v:List Bool),dS n l u=some v→v.length=u.length
 |[],u,v,h=>by simp [dS] at h;rw [h]
 |k::l,u,v,h=>by
  unfold dS at h;split at h
  ·have:=qQ n l _ _ h;simpa using this
  ·cases h
theorem iW (n:Nat):∀(l:List Int) (u v:List Bool),dS n l u=some v→∀k∈l,0≤k∧k<n
 |[],_,_,_,k,hk=>by cases hk
 |a::l,u,v,h,k,hk=>by
  unfold dS at h;split at h
  ·rename_i h2;rcases List.mem_cons.1 hk with rfl|hk
   ·exact⟨h2.1,h2.2.1⟩
   ·exact iW n l _ _ h k hk
  ·cases h
theorem zn {B:Nat} {w:World} {v:Value} {l:List Int} (h:Ints B w v l) {n i:Nat} (x:Value) (hn:n<B):Ints B (w.setCell ⟨n,i,none⟩ x) v l:=by
 obtain⟨h1,h2⟩:=h;refine⟨h1, ?_⟩;rcases h2 with h2|⟨g,cap,cur,hv,hg,hh,hr⟩
 ·exact .inl h2
 ·exact .inr ⟨g,cap,cur,hv,hg,by rw [Below.heap_setCell _ _ _ _ cr];exact hh,hr⟩
theorem LL (w:World) (cs:Array Value) (g g2:fk) (box:Obj) (k:Nat) (v:Value):(grow ((grow (w.alloc (.cells cs 4)) g).alloc box) g2).setCell ⟨w.heap.size,k,none⟩ v=grow ((grow (w.alloc (.cells (cs.setIfInBounds k v) 4)) g).alloc box) g2:=by
 rw [pK _ _ _ _ _ cr,World.setCell_alloc_past _ _ _ _ cr,pK _ _ _ _ _ ak,World.setCell_alloc_at _ _ _ _ _ rfl]
theorem Tryz.X1:(Tryz.prog.info? 4).map (fun i=>(i.zero,i.size,i.bytes))=some (some (.bool false),1,1):=by kernel_rfl
def Fu (n e1:Int) (w:World) (e:Ending) (w':World):Prop:=e=.returned (.tuple #[.int .i64 n,.int .i64 e1])∧Below w.heap.size w w'
def lR (ns:List Nd) (u:List Bool):Bool:=(List.range ns.length).all fun n=>decide ((aB ns n=1)↔(n+1=ns.length)) && decide (u.getD n false=decide (n+1≠ns.length))
def bF (ns:List Nd):Int × Int:=match eF ns ns 0 (List.replicate ns.length false) with
 |(some n,_)=>(n,60)
 |(none,u)=>if ns.length=0 then(0,60) else if lR ns u then(if 200<iX ns then(0,61) else(0,0)) else((ns.length:Int) - 1,60)
theorem qR {ns:List Nd} {n:Nat} {us v:List Bool} (h:eF ns (ns.drop n) n us=eF ns ns 0 (List.replicate ns.length false)) (h2:eF ns (ns.drop n) n us=(some n,v)):bF ns=((n:Int),60):=by
 unfold bF;rw [←h,h2]
theorem bC.later {w w':World} {p:Option Addr} {xs:List Int} (h:bC w p xs) (hb:Below w.heap.size w w'):bC w' p xs:=by
 rcases h with h|⟨b,o,hp,hbs,hc⟩
 ·exact .inl h
 ·exact .inr ⟨b,o,hp,Nat.lt_of_lt_of_le hbs hb.size,fun i hi=>by rw [←hc i hi];simp only [World.cell?,hb.block b hbs]⟩
theorem aA.later {w w':World} {p:Option Addr} {ns:List Nd} (h:aA w p ns) (hb:Below w.heap.size w w'):aA w' p ns:=by
 refine⟨h.1,fun x hx=>?_, ?_⟩
 ·obtain⟨h1,h2,h3,h4,h5,h6⟩:=h.2.1 x hx;exact⟨h1,h2,h3,h4,h5,bC.later h6 hb⟩
 ·rcases h.2.2 with h0|⟨b,o,hp,hbs,hc⟩
  ·exact .inl h0
  ·exact .inr ⟨b,o,hp,Nat.lt_of_lt_of_le hbs hb.size,fun i hi=>by
    have:=hc i hi;simp only [World.cell?,hb.block b hbs] at this ⊢;exact this⟩
theorem DC {ns:List Nd} {n:Nat} {kids:List Int} (hv:lu ns n) (hn:n≤ns.length) (hk:∀k∈kids,0≤k∧k<n):(bJ ns kids).map Int.ofNat=kids.map (aB ns)∧∀k∈bJ ns kids,0<k∧k<37:=by
 have key:∀k∈kids,1≤aB ns k∧aB ns k≤36:=fun k h=>by
  obtain⟨z,rfl⟩:∃z:Nat,k=(z:Int):=⟨k.toNat,by have:=hk k h;omega⟩;have hz:=hk _ h;have hx:ns[z]?=some (ns[z]'aa):=List.getElem?_eq_getElem aa;have h2:=hv z _ aa hx;rw [aY hx];exact⟨h2.k1,h2.yU⟩
 constructor
 ·unfold bJ;rw [List.map_map];refine List.map_congr_left fun k h=>?_
  have:=key k h;simp only [Function.comp,Int.ofNat_eq_natCast];omega
 ·intro k h;unfold bJ at h;obtain⟨a,ha,rfl⟩:=List.mem_map.1 h;have:=key a ha;omega
theorem ud {ns l:List Nd} {n:Nat} {us cy:List Bool} {x:Nd} (hk:dS n x.kids us=some cy) (hx:okB ns x=false):eF ns (x::l) n us=(some n,cy):=by
 unfold eF;simp only [hk,hx];rfl
theorem yE {ns l:List Nd} {n:Nat} {us cy:List Bool} {x:Nd} (hk:dS n x.kids us=some cy) (hx:okB ns x=true):eF ns (x::l) n us=eF ns l (n+1) cy:=by
 rw [eF];simp only [hk,hx,if_true]
theorem Dr (w:World) (p:Option Addr) (c:Nat) (ns:List Nd) (hs:Small ns) (hc:iN ns) (ha:aA w p ns) (hl0:cu w):
  Calls Tryz.prog 27 #[.slice p ns.length c] w (Fu (bF ns).1 (bF ns).2 w):=by
 obtain⟨iB,hiB,zB0,zB1,zB2⟩:=info_parts Tryz.X1;have Ha:=hid ha;have Hs:=hid hs;have Hc:=hid hc;have Hl:=hid hl0;clear ha hs hc hl0;obtain⟨L,hL⟩:∃L,L=ns.length:=⟨_,rfl⟩;rw [←hL];have hL5:(L:Int)≤5000:=by have:=Hs.out.1;omega
 have HL:=hid hL;clear hL;go_enter Tryz.func27,Tryz.ntmps27;go_wp2_with (refine wpList_make_full _ rfl _ _ 105 rfl w.heap.size 4 iB (.bool false) 1 Tryz.underlying105 hiB zB0 zB1 .i64 .i64 _ _ L rfl rfl (by go_num) (by go_num) ?_ ?_ ?_ ?_)
 ·rw [zB2];omega
 ·unfold maxLen;omega
 ·simp
 intro w1 hO hG;obtain⟨g1,rfl⟩:=uM hO hG ak;clear hO hG;have rU:(madeCells #[Value.bool false] L).toList=(List.replicate L false).map Value.bool:=by
  rw [toList_madeCells_one,List.map_replicate]
 rw [rU];clear rU hiB zB0 zB1 zB2;go_wp2;go_loopw [20] (fun i wr=>∃(n:Nat) (us:List Bool) (g:fk),n≤L∧i=.int .i64 n∧wr=grow (w.alloc (.cells (us.map Value.bool).toArray 4)) g∧us.length=L∧
  Hid (lu ns n∧eF ns (ns.drop n) n us=eF ns ns 0 (List.replicate L false))) (fun i _=>L - (intOf i).toNat)
 case atStart=>exact⟨0,List.replicate L false,g1,by omega,rfl,by simp,by simp,hid ⟨fun i x h=>absurd h aa,rfl⟩⟩
 case round=>
  obtain⟨n,us,g,hn,rfl,rfl,hul,hR⟩:=hrel;by_cases hlt:n<L
  ·have wo:n<ns.length:=by have:=HL.out;omega
   obtain⟨b,o,rfl,hb,hx,hf,c0,c1,c2,c3⟩:=fq Ha.out wo;have hsm:=Hs.out.2 ns[n] (List.getElem_mem wo);have aX:=Hc.out ns[n] (List.getElem_mem wo);have Hdr:=hid (List.drop_eq_getElem_cons wo);have Hx:=hid hx;have Hxe:Hid (ns[n]=ns[n]):=hid rfl;have n0:(0:Int)≤(n:Int):=aa;have n1:(n:Int)<(L:Int):=aa;obtain⟨q,hq⟩:∃q,q=ns[n].kids.length:=⟨_,rfl⟩;have iq:(q:Int)≤20000:=by have:=hsm.1;omega
   have Hf:=hid hf.2.2.2.2.2;generalize hxx:ns[n]=x at*;obtain⟨kind,text,kp,aG,kids,place⟩:=x;simp only at hsm aX c0 c1 c2 c3 hq Hf;rw [←hq] at c2;have Hsm:=hid hsm;have af4:=hid aX;have Hq:=hid hq;have Hxx:=hid hxx;clear hsm aX hq hf hx hxx;go_wp2;go_loopw [7,28] (fun v i w2=>∃(j:Nat) (cy:List Bool) (g2:fk),j≤q∧i=.int .i64 j∧cy.length=L∧
    w2=grow ((grow (w.alloc (.cells (cy.map Value.bool).toArray 4)) g).alloc (.cells #[.int .i64 kind,.string text,.slice kp q aG,.int .i64 place] 56)) g2∧
    Hid (Ints (w.heap.size+1+g.size+1) w2 v ((kids.map (aB ns)).take j)∧dS n (kids.drop j) cy=dS n kids us)) (fun _ i _=>q - (intOf i).toNat)
   case atStart=> 
    obtain⟨g0,h0⟩:=ay (Below.refl _ ((grow (w.alloc (.cells (us.map Value.bool).toArray 4)) g).alloc (.cells #[.int .i64 kind,.string text,.slice kp q aG,.int .i64 place] 56)));exact⟨0,us,g0,by omega,rfl,hul,h0,hid ⟨⟨by simp,.inl ⟨rfl,by simp⟩⟩,rfl⟩⟩
   case round=>
    obtain⟨j,cy,g2,hj,rfl,RJ,rfl,hI⟩:=hrel;by_cases hjq:j<q
    ·rcases Hf.out with ix|⟨bx,ox,hpx,sU,zh⟩
     ·subst ix;have:=Hq.out;simp at this;omega
     subst hpx;have hjk:j<kids.length:=mC;replace zh:=zh j hjk;have jS:=uL n kids j hjk cy;have Htk:=hid (List.take_succ_eq_append_getElem hjk);generalize kids[j]=u at*;have q0:(0:Int)≤(j:Int):=aa;have q1:(j:Int)<(q:Int):=aa;have gO:¬(0≤u∧u<n∧cy.getD u.toNat false=false)→bF ns=((n:Int),60):=fun hno=>by
      rw [if_neg hno,hI.out.2] at jS;refine qR (v:=us) (by rw [hR.out.2,HL.out]) ?_;rw [Hdr.out];unfold eF;simp only [jS]
     by_cases hu0:u<0
     ·have Hb:=hid (gO aa);exact LM
     by_cases XF:(n:Int)≤u
     ·have Hb:=hid (gO aa);have hu2:0≤u:=aa;exact LM
     obtain⟨z,rfl⟩:∃z:Nat,u=(z:Int):=⟨u.toNat,by omega⟩;rw [Int.toNat_natCast] at gO jS;have hz1:z<cy.length:=aa;have hz2:cy[z]?=some (cy.getD z false):=by rw [List.getD,List.getElem?_eq_getElem hz1];rfl
     have hzx:z<ns.length:=aa;obtain⟨b3,o3,h3,_,hx3,hf3,d0,_⟩:=fq Ha.out hzx;have hk3:=aY hx3;cases h3;rw [←hk3] at d0;obtain⟨kz,Ay⟩:∃kz,kz=aB ns (z:Int):=⟨_,rfl⟩;rw [←Ay] at d0;have Hkz:=hid Ay;clear Ay;have z0:(0:Int)≤(z:Int):=aa;have z1:(z:Int)<(n:Int):=aa;have z2:(z:Int)<(L:Int):=aa;cases wG:cy.getD z false with
     |true=>
      have Hb:=hid (gO (by rw [wG];simp));rw [wG] at hz2;clear gO jS wG hf3 hx3 hk3;exact X2
     |false=>
      rw [wG] at hz2;rw [if_pos ⟨z0,z1,wG⟩] at jS;have Hkd:=hid jS;clear gO jS wG hf3 hx3 hk3;go_wp2_with (at_builtin;go_loud (refine pP rfl _ _ rfl (w.heap.size+1+g.size+1) u7 ((kids.map (aB ns)).take j) kz (w.heap.size+1+g.size+1+g2.size) 1 rfl ?ajh rfl ?alf ?aji ?af7 ?af8))
      case ajh=>
       have h0:=zn hI.out.1 (i:=z) (.bool true) (n:=w.heap.size) aa;rw [LL,List.setIfInBounds_toArray] at h0;exact GS h0 (bA (Below.refl _ _) _)
      case aji=>have:=Hsm.out.1;first|omega|(simp;omega)
      case af7=>first|omega|(simp;omega)
      case af8=>
       intro v' w4 h1 h2 h3;have hb4:=Below.grown (bA (below_grow ((grow (w.alloc (.cells ((cy.map Value.bool).set z (.bool true)).toArray 4)) g).alloc (.cells #[.int .i64 kind,.string text,.slice (some ⟨bx,ox,none⟩) q aG,.int .i64 place] 56)) g2) _) h2 cr fun g hg=>hI.out.1.2.elim (fun h=>by rw [h.1] at hg;cases hg) fun⟨g',_,_,e,hle,_⟩=>by rw [e] at hg;cases hg;simpa using hle
       obtain⟨g3,rfl⟩:=ay hb4;clear hb4 h2 h3;have H1:=hid h1;clear h1;go_wp2;go_roundw
       case rel=>exact⟨j+1,cy.set z true,g3,by omega,by go_num,by simp [RJ],by rw [List.map_set],hid ⟨by rw [←List.map_take,Htk.out,List.map_append,List.map_cons,List.map_nil,←Hkz.out,List.map_take];exact H1.out,Hkd.out.symm.trans hI.out.2⟩⟩
       case measure=>simp [intOf];omega
    ·obtain rfl:j=q:=by omega
     have gq:dS n kids us=some cy:=by
      rw [←hI.out.2,Hq.out,List.drop_length];rfl
     have hown:=hI.out.1;rw [List.take_of_length_le (by rw [List.length_map];have:=Hq.out;omega)] at hown;have RL:=hid hown;have Cz:=hid gq;clear hI gq hown;have gO:okB ns ⟨kind,text,kp,aG,kids,place⟩=false→bF ns=((n:Int),60):=fun hno=>by
      refine qR (v:=cy) (by rw [hR.out.2,HL.out]) ?_;rw [Hdr.out];exact ud Cz.out hno
     obtain⟨pk,ck,hvv,hat⟩:=RL.out.out;rw [List.length_map,←Hq.out] at hvv;subst hvv;clear RL;have Hat:=hid hat;clear hat;have hwb:Below w.heap.size w (grow ((grow (w.alloc (.cells (cy.map Value.bool).toArray 4)) g).alloc (.cells #[.int .i64 kind,.string text,.slice kp j aG,.int .i64 place] 56)) g2):=by
      repeat (first|exact Below.refl _ _|refine bG ?_ _|refine bI ?_ _ _|refine bA ?_ _)
     have Hwb:=hid hwb;clear hwb;by_cases hpl:place<0
     ·have Hb:=hid (gO (by unfold okB;simp only [decide_eq_false (show ¬(0:Int)≤place by omega),Bool.false_and]));clear gO;exact DD
     have ajj:¬place<0:=hpl;by_cases AO:1≤kind∧kind≤36
     ·obtain⟨k,rfl⟩:∃k:Nat,kind=(k:Int):=⟨kind.toNat,by omega⟩;have aR:1≤k:=aa;have GU:k≤36:=aa;have Az:=DC hR.out.1 aa (iW n kids us cy Cz.out);obtain⟨kb,hkb⟩:∃kb,kb=ep (bY k) (bJ ns kids):=⟨_,rfl⟩;have qT:Hid (∀W,Below (grow ((grow (w.alloc (.cells (cy.map Value.bool).toArray 4)) g).alloc (.cells #[.int .i64 k,.string text,.slice kp j aG,.int .i64 place] 56)) g2).heap.size (grow ((grow (w.alloc (.cells (cy.map Value.bool).toArray 4)) g).alloc (.cells #[.int .i64 k,.string text,.slice kp j aG,.int .i64 place] 56)) g2) W→
        Calls Tryz.prog 64 #[.int .i64 (k:Int),.slice pk j ck] W fun e w'=>e=.returned (.bool kb)∧Below W.heap.size W w'):=hid fun W hW=>by
       rw [hkb];exact LP W k aR GU pk j ck aa _ (by simp [bJ,Hq.out]) (by rw [Az.1];exact bC.later Hat.out hW) Az.2
      have Hkb:=hid hkb;have Hkm:=hid Az.2;obtain⟨tb,QH⟩:∃tb,tb=rT k text.data.toList j:=⟨_,rfl⟩;have LQ:Hid (∀W,Below w.heap.size w W→Calls Tryz.prog 65 #[.agg #[.int .i64 (k:Int),.string text,.slice kp j aG,.int .i64 place]] W fun e w'=>e=.returned (.bool tb)∧Below W.heap.size W w'):=hid fun W hW=>by
       rw [QH];exact LS k aR GU text (by have:=Hsm.out.2;omega) kp j aG place W (cu.later Hl.out hW)
      have Htb:=hid QH;have qU:okB ns ⟨k,text,kp,aG,kids,place⟩=(kb && tb && jD ns ⟨k,text,kp,aG,kids,place⟩):=by
       unfold okB;simp only [decide_eq_true (show(0:Int)≤place by omega),decide_eq_true (show(1:Int)≤(k:Int)∧(k:Int)≤36 by omega),Bool.true_and,Int.toNat_natCast,hkb,QH,Hq.out]
      clear Az hkb QH;cases kb with
      |false=>
       have Hb:=hid (gO (by rw [qU];rfl));clear gO qU;go_wp2_with (go_at_call 64;((with_reducible refine(qT.out _ cN).mono ?_));rintro e w' ⟨rfl,hb⟩;obtain⟨g4,rfl⟩:=ay hb;clear hb);exact zo
      |true=>
       cases tb with
       |false=>
        have Hb:=hid (gO (by rw [qU];rfl));clear gO qU;go_wp2_with (first
         |(go_at_call 64;((with_reducible refine(qT.out _ cN).mono ?_));rintro e w' ⟨rfl,hb⟩;obtain⟨g4,rfl⟩:=ay hb;clear hb)
         |(go_at_call 65;((with_reducible refine(LQ.out _ cN).mono ?_));rintro e w' ⟨rfl,hb⟩;obtain⟨g5,rfl⟩:=ay hb;clear hb))
        exact zo
       |true=>
        have Rj:∀W,Below w.heap.size w W→Calls Tryz.prog 66 #[.slice (some ⟨b,o,none⟩) L c,.int .i64 (n:Int)] W fun e w'=>e=.returned (.bool (jD ns ⟨k,text,kp,aG,kids,place⟩))∧Below W.heap.size W w':=fun W hW=>by
         have h:=GV W (some ⟨b,o,none⟩) c ns Hs.out Hc.out (aA.later Ha.out hW) n wo hR.out.1;rw [Hxx.out,←HL.out] at h;exact h ⟨by simp only;omega,by simp only;omega,iW n kids us cy Cz.out,by rw [Int.toNat_natCast];exact Hkb.out.symm,by rw [Int.toNat_natCast];simp only;rw [←Hq.out];exact Htb.out.symm⟩
        obtain⟨eb,heb⟩:∃eb,eb=jD ns ⟨k,text,kp,aG,kids,place⟩:=⟨_,rfl⟩;rw [←heb] at Rj qU;have af9:=hid Rj;have Heb:=hid heb;clear Rj heb;cases eb with
        |false=>
         have Hb:=hid (gO (by rw [qU];rfl));clear gO qU;go_wp2_with (first
          |(go_at_call 64;((with_reducible refine(qT.out _ cN).mono ?_));rintro e w' ⟨rfl,hb⟩;obtain⟨g4,rfl⟩:=ay hb;clear hb)
          |(go_at_call 65;((with_reducible refine(LQ.out _ cN).mono ?_));rintro e w' ⟨rfl,hb⟩;obtain⟨g5,rfl⟩:=ay hb;clear hb)
          |(go_at_call 66;((with_reducible refine(af9.out _ cN).mono ?_));rintro e w' ⟨rfl,hb⟩;obtain⟨g6,rfl⟩:=ay hb;clear hb))
         exact zo
        |true=>
         have Hok:=hid qU;clear gO qU;go_wp2_with (first
          |(go_at_call 64;((with_reducible refine(qT.out _ cN).mono ?_));rintro e w' ⟨rfl,hb⟩;obtain⟨g4,rfl⟩:=ay hb;clear hb)
          |(go_at_call 65;((with_reducible refine(LQ.out _ cN).mono ?_));rintro e w' ⟨rfl,hb⟩;obtain⟨g5,rfl⟩:=ay hb;clear hb)
          |(go_at_call 66;((with_reducible refine(af9.out _ cN).mono ?_));rintro e w' ⟨rfl,hb⟩;obtain⟨g6,rfl⟩:=ay hb;clear hb))
         have hb7:Below (w.alloc (.cells (cy.map Value.bool).toArray 4)).heap.size (w.alloc (.cells (cy.map Value.bool).toArray 4)) (grow ((grow (w.alloc (.cells (cy.map Value.bool).toArray 4)) g).alloc (.cells #[.int .i64 k,.string text,.slice kp j aG,.int .i64 place] 56)) (((g2.app g4).app g5).app g6)):=by
          repeat (first|exact Below.refl _ _|refine bG ?_ _|refine bI ?_ _ _|refine bA ?_ _)
         obtain⟨g7,h7⟩:=ay hb7;refine⟨⟨n+1,cy,g7,by omega,by go_num,h7,RJ,hid ⟨fun i x hi hx2=>?_, ?_⟩⟩,by simp [intOf];omega⟩
         ·by_cases QC:i<n
          ·exact hR.out.1 i x QC hx2
          ·obtain rfl:i=n:=by omega
           rw [Hx.out] at hx2;cases hx2;exact⟨by simp only;omega,by simp only;omega,by simp only;omega,iW i kids us cy Cz.out,by rw [Int.toNat_natCast];exact Hkb.out.symm,by rw [Int.toNat_natCast];simp only;rw [←Hq.out];exact Htb.out.symm,Heb.out.symm⟩
         ·rw [←hR.out.2,Hdr.out];exact(yE Cz.out (by rw [Hok.out];rfl)).symm
     ·have Hb:=hid (gO (by unfold okB;simp only [decide_eq_false (show ¬((1:Int)≤kind∧kind≤36) from AO),Bool.and_false,Bool.false_and]));have hkn:=hid (fun W=>GW W kind aa pk j ck aa);clear gO;go_wp2_with (go_at_call 64;((with_reducible refine(hkn.out _).mono ?_));rintro e w' ⟨rfl,hb⟩;obtain⟨g4,rfl⟩:=ay hb;clear hb);exact zo
  ·obtain rfl:n=L:=by omega
   have fI:bF ns=if n=0 then((0:Int),(60:Int)) else if lR ns us then(if 200<iX ns then(0,61) else(0,0)) else((n:Int) - 1,60):=by
    exact LU
   by_cases Aw:n=0
   ·rw [if_pos Aw] at fI;have Hb:=hid fI;have xC:(n:Int) - 1<0:=aa;clear fI;exact DD
   rw [if_neg Aw] at fI;have Hck:=hid fI;have xC:¬((n:Int) - 1<0):=aa;clear fI;go_wp2;go_loop [88] (fun i=>∃k:Nat,k≤n∧i=.int .i64 k∧Hid (∀m<k,(decide ((aB ns m=1)↔(m+1=ns.length)) && decide (us.getD m false=decide (m+1≠ns.length)))=true)) (fun i=>n - (intOf i).toNat)
   case atStart=>exact⟨0,by omega,rfl,hid fun m h=>absurd h aa⟩
   case round=>
    obtain⟨k,hk,rfl,hK⟩:=hrel;by_cases hkn:k<n
    ·have DF:k<ns.length:=by have:=HL.out;omega
     obtain⟨b,o,rfl,hb,hx,hf,c0,c1,c2,c3⟩:=fq Ha.out DF;have hka:=aY hx;rw [←hka] at c0;have aga:k<us.length:=aa;have XF:us[k]=us.getD k false:=LV;have k0:(0:Int)≤(k:Int):=aa;have k1:(k:Int)<(n:Int):=aa;obtain⟨kd,jS⟩:∃kd,kd=aB ns (k:Int):=⟨_,rfl⟩;obtain⟨ub,wG⟩:∃ub,ub=us.getD k false:=⟨_,rfl⟩;rw [←jS] at c0;rw [←wG] at XF;have Hkd:=hid jS;have Hub:=hid wG;clear hka jS wG hx hf c1 c2 c3;have hno:¬((decide ((kd=1)↔(k+1=ns.length)) && decide (ub=decide (k+1≠ns.length)))=true)→bF ns=((n:Int) - 1,60):=fun h=>by
      exact LW
     have uN:(decide ((kd=1)↔(k+1=ns.length)) && decide (ub=decide (k+1≠ns.length)))=true→∀m<k+1,(decide ((aB ns m=1)↔(m+1=ns.length)) && decide (us.getD m false=decide (m+1≠ns.length)))=true:=fun h m hm=>by
      exact LY
     by_cases hd:kd=1
     ·subst hd;by_cases hlk:(n:Int) - 1=(k:Int)
      ·have Hlk:=hid hlk;have bK:k+1=ns.length:=nS;cases ub with
       |true=>
        have Hb:=hid (hno (by simp [bK]));exact X3
       |false=>
        have Hy:=hid (uN (by simp [bK]));exact LZ
      ·have bK:¬k+1=ns.length:=by have:=HL.out;omega
       have ajl:=cA (fun e=>hlk e.symm:(k:Int)≠(n:Int) - 1);cases ub with
       |true=>
        exact X4
       |false=>
        exact X4
     ·have iM:=cA hd;by_cases hlk:(n:Int) - 1=(k:Int)
      ·have Hlk:=hid hlk;have bK:k+1=ns.length:=nS;cases ub with
       |true=>
        exact X5
       |false=>
        exact X5
      ·have bK:¬k+1=ns.length:=by have:=HL.out;omega
       have ajl:=cA (fun e=>hlk e.symm:(k:Int)≠(n:Int) - 1);cases ub with
       |true=>
        have Hy:=hid (uN (by simp [bK,hd]));exact LZ
       |false=>
        have Hb:=hid (hno (by simp [bK,hd]));clear hno uN bK;exact DD
    ·obtain rfl:k=n:=by omega
     have Bf:lR ns us=true:=by
      exact L3
     have fI:=Hck.out;rw [if_pos Bf] at fI;have L4:Hid (∀W,Below w.heap.size w W→Calls Tryz.prog 62 #[.slice p k c] W fun e w'=>e=.returned (.int .i64 (iX ns))∧Below W.heap.size W w'):=hid fun W hW=>by
      have h:=GX p c ns W (aA.later Ha.out hW) Hs.out;rw [←HL.out] at h;exact h
     generalize iX ns=dp at*;by_cases Bg:200<dp
     ·rw [if_pos Bg] at fI;exact X6
     ·rw [if_neg Bg] at fI;exact X6
end Go.Proofs.YtjchnliaglecoaaGreatDoor
/- A part of the proof. Conditions: none. -/
set_option maxRecDepth 100000
set_option maxHeartbeats 8000000
namespace Go.Proofs.YtjchnliaglecoaaGreatDoor
open Go Go.RowKit Go.Nodes
def aO (W:World) (U:Nat) (us:List Bool):World:={W with heap:=W.heap.setIfInBounds U (.cells (us.map Value.bool).toArray 4 (0,0))}
@[simp, go_sem] theorem oK (W : World) (U : Nat) (us : List Bool) : (aO W U us).heap.size = W.heap.size := by simp [aO]
theorem kH (W:World) (U:Nat) (us:List Bool) (b:Nat) (h:¬b=U):(aO W U us).heap[b]?=W.heap[b]?:=by
 have h':U≠b:=fun e=>h e.symm
 simp [aO,Array.getElem?_setIfInBounds,h']
theorem kS (W:World) (U:Nat) (us:List Bool) (h:U<W.heap.size):(aO W U us).heap[U]?=some (.cells (us.map Value.bool).toArray 4 (0,0)):=by
 simp [aO,h]
@[go_sem] theorem aa0 (W : World) (U : Nat) (us : List Bool) (b i : Nat) (h : ¬ b = U) : (aO W U us).cell? ⟨b, i, none⟩ = W.cell? ⟨b, i, none⟩ := World.cell?_of_block (w := W) (kH W U us b h)
@[go_sem] theorem Jd (W : World) (U : Nat) (us : List Bool) (i : Nat) (h : U < W.heap.size) : (aO W U us).cell? ⟨U, i, none⟩ = us[i]?.map Value.bool := by
 simp [World.cell?,kS W U us h]
@[go_sem] theorem Fw (W : World) (U : Nat) (us : List Bool) (i : Nat) (h : U < W.heap.size) : (aO W U us).frozen? ⟨U, i, none⟩ = false := by
 simp [World.frozen?,kS W U us h]
@[go_sem] theorem QK (W : World) (U : Nat) (us : List Bool) (i : Nat) (x : Bool) (h : U < W.heap.size) : (aO W U us).setCell ⟨U, i, none⟩ (.bool x) = aO W U (us.set i x) := by
 simp only [World.setCell,aO];congr 1;apply Array.ext_getElem?;intro k;simp only [Array.getElem?_modify,Array.getElem?_setIfInBounds];by_cases e:U=k
 ·subst e;simp [h,List.map_set]
 ·simp [e]
theorem DL (W:World) (U:Nat) (us:List Bool) (h:W.heap[U]?=some (.cells (us.map Value.bool).toArray 4 (0,0))):aO W U us=W:=by
 have hlt:=(Array.getElem?_eq_some_iff.1 h).1;unfold aO;congr 1;apply Array.ext_getElem?;intro k;by_cases e:U=k
 ·subst e;simp [hlt,←h]
 ·simp [Array.getElem?_setIfInBounds,e]
theorem mE (W:World) (U:Nat) (us vs:List Bool):aO (aO W U us) U vs=aO W U vs:=by
 simp only [aO];congr 1;apply Array.ext_getElem?;intro k;simp only [Array.getElem?_setIfInBounds,Array.size_setIfInBounds];by_cases e:U=k
 ·subst e;simp
 ·simp [e]
theorem oL (W:World) (g:fk) (U:Nat) (us:List Bool) (h:U<W.heap.size):aO (grow W g) U us=grow (aO W U us) g:=by
 simp only [aO,grow];congr 1;apply Array.ext_getElem?;intro k;simp only [Array.getElem?_setIfInBounds,Array.getElem?_append,Array.size_append,Array.size_setIfInBounds];by_cases e:U=k
 ·subst e;simp [h];omega
 ·simp [e]
theorem eR (W:World) (o:Obj) (U:Nat) (us:List Bool) (h:U<W.heap.size):aO (W.alloc o) U us=(aO W U us).alloc o:=by
 simp only [aO,World.alloc];congr 1;apply Array.ext_getElem?;intro k;simp only [Array.getElem?_setIfInBounds,Array.getElem?_push,Array.size_push,Array.size_setIfInBounds];by_cases e:U=k
 ·subst e;have h2:¬U=W.heap.size:=aa;have h3:U<W.heap.size+1:=aa;simp [h,h2,h3]
 ·simp [e]
theorem jr {w W:World} {U:Nat} {us:List Bool} (hW:Below w.heap.size w W) (hU:w.heap.size≤U):Below w.heap.size w (aO W U us):=by
 obtain⟨h1,h2,h3,h4,h5⟩:=hW;exact⟨h1,h2,h3,by simpa using h4,fun k hk=>by rw [kH _ _ _ _ aa];exact h5 k hk⟩
end Go.Proofs.YtjchnliaglecoaaGreatDoor