/- A part of the proof. Conditions: none. -/
import Derived.Test.YtjchnliaglecoaaGreatDoorZz
import Derived.Test.YtjchnliaglecoaaGreatDoorApX
import Derived.Test.YtjchnliaglecoaaGreatDoorSvX
import Derived.Test.YtjchnliaglecoaaGreatDoorDr
import Derived.WalkSmall
import Derived.Lib.OwnKind
import Derived.Test.YtjchnliaglecoaaGreatDoorTb
set_option linter.unusedVariables false
set_option linter.unusedSimpArgs false
set_option maxRecDepth 100000
set_option maxHeartbeats 8000000
namespace Go.Proofs.YtjchnliaglecoaaGreatDoor
open Go Go.RowKit Go.Nodes
def eF (n:Nat):List Int→List Bool→Option (List Bool)
 |[],u=>some u
 |k::l,u=>if 0≤k∧k<n∧u.getD k.toNat false=false then eF n l (u.set k.toNat true) else none
def okB (ns:List Nd) (x:Nd):Bool:=
 decide (0≤x.place) && (decide (1≤x.kind∧x.kind≤36) && fJ (dh x.kind.toNat) (cR ns x.kids)) && ru x.kind.toNat x.text.data.toList x.kids.length && mI ns x
def fh (ns:List Nd):List Nd→Nat→List Bool→Option Nat × List Bool
 |[],_,u=>(none,u)
 |x::l,n,u=>match eF n x.kids u with
  |none=>(some n,u)
  |some u2=>if okB ns x then fh ns l (n+1) u2 else(some n,u2)
theorem yJ (n:Nat) (l:List Int) (j:Nat) (hj:j<l.length) (u:List Bool):eF n (l.drop j) u=if 0≤l[j]∧l[j]<n∧u.getD l[j].toNat false=false then eF n (l.drop (j+1)) (u.set l[j].toNat true) else none:=by
 rw [List.drop_eq_getElem_cons hj];rfl
theorem qI (n:Nat):∀(l:List Int) (u v:List Bool),eF n l u=some v→v.length=u.length
 |[],u,v,h=>by simp [eF] at h;rw [h]
 |k::l,u,v,h=>by
  unfold eF at h;split at h
  ·have:=qI n l _ _ h;simpa using this
  ·cases h
theorem lz (n:Nat):∀(l:List Int) (u v:List Bool),eF n l u=some v→∀k∈l,0≤k∧k<n
 |[],_,_,_,k,hk=>by cases hk
 |a::l,u,v,h,k,hk=>by
  unfold eF at h;split at h
  ·rename_i h2;rcases List.mem_cons.1 hk with rfl|hk
   ·exact⟨h2.1,h2.2.1⟩
   ·exact lz n l _ _ h k hk
  ·cases h
theorem eL {B:Nat} {w:World} {v:Value} {l:List Int} (h:Ints B w v l) {n i:Nat} (x:Value) (hn:n<B):Ints B (w.setCell ⟨n,i,none⟩ x) v l:=by
 obtain⟨h1,h2⟩:=h;refine⟨h1, ?_⟩;rcases h2 with h2|⟨g,cap,cur,hv,hg,hh,hr⟩
 ·exact .inl h2
 ·exact .inr ⟨g,cap,cur,hv,hg,by rw [Below.heap_setCell _ _ _ _ bt];exact hh,hr⟩
theorem Q3 (w:World) (cs:Array Value) (g g2:gQ) (box:Obj) (k:Nat) (v:Value):(grow ((grow (w.alloc (.cells cs 4)) g).alloc box) g2).setCell ⟨w.heap.size,k,none⟩ v=grow ((grow (w.alloc (.cells (cs.setIfInBounds k v) 4)) g).alloc box) g2:=by
 rw [tG _ _ _ _ _ bt,World.setCell_alloc_past _ _ _ _ bt,tG _ _ _ _ _ ak,World.setCell_alloc_at _ _ _ _ _ rfl]
theorem Tryz.adg:(Tryz.prog.info? 4).map (fun i=>(i.zero,i.size,i.bytes))=some (some (.bool false),1,1):=by kernel_rfl
def tX (n e1:Int) (w:World) (e:Ending) (w':World):Prop:=e=.returned (.tuple #[.int .i64 n,.int .i64 e1])∧Below w.heap.size w w'
def p7 (ns:List Nd) (u:List Bool):Bool:=(List.range ns.length).all fun n=>decide ((aq ns n=1)↔(n+1=ns.length)) && decide (u.getD n false=decide (n+1≠ns.length))
def bg (ns:List Nd):Int × Int:=match fh ns ns 0 (List.replicate ns.length false) with
 |(some n,_)=>(n,60)
 |(none,u)=>if ns.length=0 then(0,60) else if p7 ns u then(if 200<lB ns then(0,61) else(0,0)) else((ns.length:Int) - 1,60)
theorem uKr {ns:List Nd} {n:Nat} {us v:List Bool} (h:fh ns (ns.drop n) n us=fh ns ns 0 (List.replicate ns.length false)) (h2:fh ns (ns.drop n) n us=(some n,v)):bg ns=((n:Int),60):=by
 unfold bg;rw [←h,h2]
theorem dW.later {w w':World} {p:Option Addr} {xs:List Int} (h:dW w p xs) (hb:Below w.heap.size w w'):dW w' p xs:=by
 rcases h with h|⟨b,o,hp,Ye,hc⟩
 ·exact .inl h
 ·exact .inr ⟨b,o,hp,Nat.lt_of_lt_of_le Ye hb.size,fun i hi=>by rw [←hc i hi];simp only [World.cell?,hb.block b Ye]⟩
theorem ay.later {w w':World} {p:Option Addr} {ns:List Nd} (h:ay w p ns) (hb:Below w.heap.size w w'):ay w' p ns:=by
 refine⟨h.1,fun x hx=>?_, ?_⟩
 ·obtain⟨h1,h2,h3,h4,h5,h6⟩:=h.2.1 x hx;exact⟨h1,h2,h3,h4,h5,dW.later h6 hb⟩
 ·rcases h.2.2 with h0|⟨b,o,hp,Ye,hc⟩
  ·exact .inl h0
  ·exact .inr ⟨b,o,hp,Nat.lt_of_lt_of_le Ye hb.size,fun i hi=>by
    have:=hc i hi;simp only [World.cell?,hb.block b Ye] at this ⊢;exact this⟩
theorem Jw {ns:List Nd} {n:Nat} {kids:List Int} (hv:oY ns n) (hn:n≤ns.length) (hk:∀k∈kids,0≤k∧k<n):(cR ns kids).map Int.ofNat=kids.map (aq ns)∧∀k∈cR ns kids,0<k∧k<37:=by
 have key:∀k∈kids,1≤aq ns k∧aq ns k≤36:=fun k h=>by
  obtain⟨z,rfl⟩:∃z:Nat,k=(z:Int):=⟨k.toNat,by have:=hk k h;omega⟩;have hz:=hk _ h;have hx:ns[z]?=some (ns[z]'af):=List.getElem?_eq_getElem af;have h2:=hv z _ af hx;rw [aL hx];exact⟨h2.k1,h2.Q4⟩
 constructor
 ·unfold cR;rw [List.map_map];refine List.map_congr_left fun k h=>?_
  have:=key k h;simp only [Function.comp,Int.ofNat_eq_natCast];omega
 ·intro k h;unfold cR at h;obtain⟨a,ha,rfl⟩:=List.mem_map.1 h;have:=key a ha;omega
theorem yK {ns l:List Nd} {n:Nat} {us cU:List Bool} {x:Nd} (hk:eF n x.kids us=some cU) (hx:okB ns x=false):fh ns (x::l) n us=(some n,cU):=by
 unfold fh;simp only [hk,hx];rfl
theorem Di {ns l:List Nd} {n:Nat} {us cU:List Bool} {x:Nd} (hk:eF n x.kids us=some cU) (hx:okB ns x=true):fh ns (x::l) n us=fh ns l (n+1) cU:=by
 rw [fh];simp only [hk,hx,if_true]
theorem yL (w:World) (p:Option Addr) (c:Nat) (ns:List Nd) (hs:Small ns) (hc:gS ns) (ha:ay w p ns) (hl0:bZ w):
  Calls Tryz.prog 27 #[.slice p ns.length c] w (tX (bg ns).1 (bg ns).2 w):=by
 obtain⟨iB,hiB,zB0,zB1,zB2⟩:=info_parts Tryz.adg;have Ha:=hid ha;have Hs:=hid hs;have Hc:=hid hc;have Hl:=hid hl0;clear ha hs hc hl0;obtain⟨L,hL⟩:∃L,L=ns.length:=⟨_,rfl⟩;rw [←hL];have hL5:(L:Int)≤5000:=by have:=Hs.out.1;omega
 have HL:=hid hL;clear hL;go_enter Tryz.func27,Tryz.ntmps27;go_wp2_with (refine wpList_make_full _ rfl _ _ 105 rfl w.heap.size 4 iB (.bool false) 1 Tryz.underlying105 hiB zB0 zB1 .i64 .i64 _ _ L rfl rfl (by go_num) (by go_num) ?_ ?_ ?_ ?_)
 ·rw [zB2];omega
 ·unfold maxLen;omega
 ·simp
 intro w1 hO hG;obtain⟨g1,rfl⟩:=tY hO hG ak;clear hO hG;have p8:(madeCells #[Value.bool false] L).toList=(List.replicate L false).map Value.bool:=by
  exact Dj
 rw [p8];clear p8 hiB zB0 zB1 zB2;go_wp2;go_loopw [20] (fun i wr=>∃(n:Nat) (us:List Bool) (g:gQ),n≤L∧i=.int .i64 n∧wr=grow (w.alloc (.cells (us.map Value.bool).toArray 4)) g∧us.length=L∧
  Hid (oY ns n∧fh ns (ns.drop n) n us=fh ns ns 0 (List.replicate L false))) (fun i _=>L - (intOf i).toNat)
 case atStart=>exact⟨0,List.replicate L false,g1,by omega,rfl,by simp,by simp,hid ⟨fun i x h=>absurd h af,rfl⟩⟩
 case round=>
  obtain⟨n,us,g,hn,rfl,rfl,hul,hR⟩:=hrel;by_cases hlt:n<L
  ·have ct:n<ns.length:=by have:=HL.out;omega
   obtain⟨b,o,rfl,hb,hx,hf,c0,c1,c2,c3⟩:=bh Ha.out ct;have hsm:=Hs.out.2 ns[n] (List.getElem_mem ct);have bz:=Hc.out ns[n] (List.getElem_mem ct);have Hdr:=hid (List.drop_eq_getElem_cons ct);have Hx:=hid hx;have Hxe:Hid (ns[n]=ns[n]):=hid rfl;have n0:(0:Int)≤(n:Int):=af;have n1:(n:Int)<(L:Int):=af;obtain⟨q,hq⟩:∃q,q=ns[n].kids.length:=⟨_,rfl⟩;have BH:(q:Int)≤20000:=by have:=hsm.1;omega
   have Hf:=hid hf.2.2.2.2.2;generalize hxx:ns[n]=x at*;obtain⟨kind,text,kp,aP,kids,place⟩:=x;simp only at hsm bz c0 c1 c2 c3 hq Hf;rw [←hq] at c2;have Hsm:=hid hsm;have kI:=hid bz;have Hq:=hid hq;have Hxx:=hid hxx;clear hsm bz hq hf hx hxx;go_wp2;go_loopw [7,28] (fun v i w2=>∃(j:Nat) (cU:List Bool) (g2:gQ),j≤q∧i=.int .i64 j∧cU.length=L∧
    w2=grow ((grow (w.alloc (.cells (cU.map Value.bool).toArray 4)) g).alloc (.cells #[.int .i64 kind,.string text,.slice kp q aP,.int .i64 place] 56)) g2∧
    Hid (Ints (w.heap.size+1+g.size+1) w2 v ((kids.map (aq ns)).take j)∧eF n (kids.drop j) cU=eF n kids us)) (fun _ i _=>q - (intOf i).toNat)
   case atStart=> 
    obtain⟨g0,h0⟩:=aC (Below.refl _ ((grow (w.alloc (.cells (us.map Value.bool).toArray 4)) g).alloc (.cells #[.int .i64 kind,.string text,.slice kp q aP,.int .i64 place] 56)));exact⟨0,us,g0,by omega,rfl,hul,h0,hid ⟨⟨by simp,.inl ⟨rfl,by simp⟩⟩,rfl⟩⟩
   case round=>
    obtain⟨j,cU,g2,hj,rfl,FI,rfl,hI⟩:=hrel;by_cases hjq:j<q
    ·rcases Hf.out with ix|⟨bx,ox,hpx,De,C6⟩
     ·subst ix;have:=Hq.out;simp at this;omega
     subst hpx;have hjk:j<kids.length:=p9;replace C6:=C6 j hjk;have bW:=yJ n kids j hjk cU;have Htk:=hid (List.take_succ_eq_append_getElem hjk);generalize kids[j]=u at*;have q0:(0:Int)≤(j:Int):=af;have q1:(j:Int)<(q:Int):=af;have jx:¬(0≤u∧u<n∧cU.getD u.toNat false=false)→bg ns=((n:Int),60):=fun hno=>by
      rw [if_neg hno,hI.out.2] at bW;refine uKr (v:=us) (by rw [hR.out.2,HL.out]) ?_;rw [Hdr.out];unfold fh;simp only [bW]
     by_cases hu0:u<0
     ·have Hb:=hid (jx af);exact Q5
     by_cases Xe:(n:Int)≤u
     ·have Hb:=hid (jx af);have hu2:0≤u:=af;exact Q5
     obtain⟨z,rfl⟩:∃z:Nat,u=(z:Int):=⟨u.toNat,by omega⟩;rw [Int.toNat_natCast] at jx bW;have hz1:z<cU.length:=af;have hz2:cU[z]?=some (cU.getD z false):=by rw [List.getD,List.getElem?_eq_getElem hz1];rfl
     have hzx:z<ns.length:=af;obtain⟨b3,o3,h3,_,hx3,hf3,d0,_⟩:=bh Ha.out hzx;have hk3:=aL hx3;cases h3;rw [←hk3] at d0;obtain⟨kz,kf⟩:∃kz,kz=aq ns (z:Int):=⟨_,rfl⟩;rw [←kf] at d0;have Js:=hid kf;clear kf;have z0:(0:Int)≤(z:Int):=af;have z1:(z:Int)<(n:Int):=af;have z2:(z:Int)<(L:Int):=af;cases AP:cU.getD z false with
     |true=>
      have Hb:=hid (jx (by rw [AP];simp));rw [AP] at hz2;clear jx bW AP hf3 hx3 hk3;exact adi
     |false=>
      rw [AP] at hz2;rw [if_pos ⟨z0,z1,AP⟩] at bW;have kH:=hid bW;clear jx bW AP hf3 hx3 hk3;go_wp2_with (at_builtin;go_loud (refine lX rfl _ _ rfl (w.heap.size+1+g.size+1) u7 ((kids.map (aq ns)).take j) kz (w.heap.size+1+g.size+1+g2.size) 1 rfl ?yH rfl ?adj ?agT ?pZ ?p4))
      case yH=>
       have h0:=eL hI.out.1 (i:=z) (.bool true) (n:=w.heap.size) af;rw [Q3,List.setIfInBounds_toArray] at h0;exact bR h0 (bA (Below.refl _ _) _)
      case agT=>have:=Hsm.out.1;first|omega|(simp;omega)
      case pZ=>first|omega|(simp;omega)
      case p4=>
       intro v' w4 h1 h2 h3;have hb4:=Below.grown (bA (below_grow ((grow (w.alloc (.cells ((cU.map Value.bool).set z (.bool true)).toArray 4)) g).alloc (.cells #[.int .i64 kind,.string text,.slice (some ⟨bx,ox,none⟩) q aP,.int .i64 place] 56)) g2) _) h2 bt fun g hg=>hI.out.1.2.elim (fun h=>by rw [h.1] at hg;cases hg) fun⟨g',_,_,e,hle,_⟩=>by rw [e] at hg;cases hg;simpa using hle
       obtain⟨g3,rfl⟩:=aC hb4;clear hb4 h2 h3;have H1:=hid h1;clear h1;go_wp2;go_roundw
       case rel=>exact⟨j+1,cU.set z true,g3,by omega,by go_num,by simp [FI],by rw [List.map_set],hid ⟨by rw [←List.map_take,Htk.out,List.map_append,List.map_cons,List.map_nil,←Js.out,List.map_take];exact H1.out,kH.out.symm.trans hI.out.2⟩⟩
       case measure=>simp [intOf];omega
    ·obtain rfl:j=q:=by omega
     have cO:eF n kids us=some cU:=by
      rw [←hI.out.2,Hq.out,List.drop_length];rfl
     have hown:=hI.out.1;rw [List.take_of_length_le (by rw [List.length_map];have:=Hq.out;omega)] at hown;have alx:=hid hown;have lN:=hid cO;clear hI cO hown;have jx:okB ns ⟨kind,text,kp,aP,kids,place⟩=false→bg ns=((n:Int),60):=fun hno=>by
      refine uKr (v:=cU) (by rw [hR.out.2,HL.out]) ?_;rw [Hdr.out];exact yK lN.out hno
     obtain⟨pk,ck,hvv,hat⟩:=alx.out.out;rw [List.length_map,←Hq.out] at hvv;subst hvv;clear alx;have Hat:=hid hat;clear hat;have Bx:Below w.heap.size w (grow ((grow (w.alloc (.cells (cU.map Value.bool).toArray 4)) g).alloc (.cells #[.int .i64 kind,.string text,.slice kp j aP,.int .i64 place] 56)) g2):=by
      repeat (first|exact Below.refl _ _|refine bG ?_ _|refine bI ?_ _ _|refine bA ?_ _)
     have Hwb:=hid Bx;clear Bx;by_cases hpl:place<0
     ·have Hb:=hid (jx (by unfold okB;simp only [decide_eq_false (show ¬(0:Int)≤place by omega),Bool.false_and]));clear jx;exact Jy
     have aqs:¬place<0:=hpl;by_cases hki:1≤kind∧kind≤36
     ·obtain⟨k,rfl⟩:∃k:Nat,kind=(k:Int):=⟨kind.toNat,by omega⟩;have r7:1≤k:=af;have AQ:k≤36:=af;have BI:=Jw hR.out.1 af (lz n kids us cU lN.out);obtain⟨kb,hkb⟩:∃kb,kb=fJ (dh k) (cR ns kids):=⟨_,rfl⟩;have ve:Hid (∀W,Below (grow ((grow (w.alloc (.cells (cU.map Value.bool).toArray 4)) g).alloc (.cells #[.int .i64 k,.string text,.slice kp j aP,.int .i64 place] 56)) g2).heap.size (grow ((grow (w.alloc (.cells (cU.map Value.bool).toArray 4)) g).alloc (.cells #[.int .i64 k,.string text,.slice kp j aP,.int .i64 place] 56)) g2) W→
        Calls Tryz.prog 64 #[.int .i64 (k:Int),.slice pk j ck] W fun e w'=>e=.returned (.bool kb)∧Below W.heap.size W w'):=hid fun W hW=>by
       rw [hkb];exact Q6 W k r7 AQ pk j ck af _ (by simp [cR,Hq.out]) (by rw [BI.1];exact dW.later Hat.out hW) BI.2
      have Hkb:=hid hkb;have Hkm:=hid BI.2;obtain⟨tb,xx⟩:∃tb,tb=ru k text.data.toList j:=⟨_,rfl⟩;have Q7:Hid (∀W,Below w.heap.size w W→Calls Tryz.prog 65 #[.agg #[.int .i64 (k:Int),.string text,.slice kp j aP,.int .i64 place]] W fun e w'=>e=.returned (.bool tb)∧Below W.heap.size W w'):=hid fun W hW=>by
       rw [xx];exact Q8 k r7 AQ text (by have:=Hsm.out.2;omega) kp j aP place W (bZ.later Hl.out hW)
      have Htb:=hid xx;have vg:okB ns ⟨k,text,kp,aP,kids,place⟩=(kb && tb && mI ns ⟨k,text,kp,aP,kids,place⟩):=by
       unfold okB;simp only [decide_eq_true (show(0:Int)≤place by omega),decide_eq_true (show(1:Int)≤(k:Int)∧(k:Int)≤36 by omega),Bool.true_and,Int.toNat_natCast,hkb,xx,Hq.out]
      clear BI hkb xx;cases kb with
      |false=>
       have Hb:=hid (jx (by rw [vg];rfl));clear jx vg;go_wp2_with (go_at_call 64;((with_reducible refine(ve.out _ dB).mono ?_));rintro e w' ⟨rfl,hb⟩;obtain⟨g4,rfl⟩:=aC hb;clear hb);exact Dk
      |true=>
       cases tb with
       |false=>
        have Hb:=hid (jx (by rw [vg];rfl));clear jx vg;go_wp2_with (first
         |(go_at_call 64;((with_reducible refine(ve.out _ dB).mono ?_));rintro e w' ⟨rfl,hb⟩;obtain⟨g4,rfl⟩:=aC hb;clear hb)
         |(go_at_call 65;((with_reducible refine(Q7.out _ dB).mono ?_));rintro e w' ⟨rfl,hb⟩;obtain⟨g5,rfl⟩:=aC hb;clear hb))
        exact Dk
       |true=>
        have XN:∀W,Below w.heap.size w W→Calls Tryz.prog 66 #[.slice (some ⟨b,o,none⟩) L c,.int .i64 (n:Int)] W fun e w'=>e=.returned (.bool (mI ns ⟨k,text,kp,aP,kids,place⟩))∧Below W.heap.size W w':=fun W hW=>by
         have h:=Nn W (some ⟨b,o,none⟩) c ns Hs.out Hc.out (ay.later Ha.out hW) n ct hR.out.1;rw [Hxx.out,←HL.out] at h;exact h ⟨by simp only;omega,by simp only;omega,lz n kids us cU lN.out,by rw [Int.toNat_natCast];exact Hkb.out.symm,by rw [Int.toNat_natCast];simp only;rw [←Hq.out];exact Htb.out.symm⟩
        obtain⟨eb,OY⟩:∃eb,eb=mI ns ⟨k,text,kp,aP,kids,place⟩:=⟨_,rfl⟩;rw [←OY] at XN vg;have aly:=hid XN;have Heb:=hid OY;clear XN OY;cases eb with
        |false=>
         have Hb:=hid (jx (by rw [vg];rfl));clear jx vg;go_wp2_with (first
          |(go_at_call 64;((with_reducible refine(ve.out _ dB).mono ?_));rintro e w' ⟨rfl,hb⟩;obtain⟨g4,rfl⟩:=aC hb;clear hb)
          |(go_at_call 65;((with_reducible refine(Q7.out _ dB).mono ?_));rintro e w' ⟨rfl,hb⟩;obtain⟨g5,rfl⟩:=aC hb;clear hb)
          |(go_at_call 66;((with_reducible refine(aly.out _ dB).mono ?_));rintro e w' ⟨rfl,hb⟩;obtain⟨g6,rfl⟩:=aC hb;clear hb))
         exact Dk
        |true=>
         have Hok:=hid vg;clear jx vg;go_wp2_with (first
          |(go_at_call 64;((with_reducible refine(ve.out _ dB).mono ?_));rintro e w' ⟨rfl,hb⟩;obtain⟨g4,rfl⟩:=aC hb;clear hb)
          |(go_at_call 65;((with_reducible refine(Q7.out _ dB).mono ?_));rintro e w' ⟨rfl,hb⟩;obtain⟨g5,rfl⟩:=aC hb;clear hb)
          |(go_at_call 66;((with_reducible refine(aly.out _ dB).mono ?_));rintro e w' ⟨rfl,hb⟩;obtain⟨g6,rfl⟩:=aC hb;clear hb))
         have hb7:Below (w.alloc (.cells (cU.map Value.bool).toArray 4)).heap.size (w.alloc (.cells (cU.map Value.bool).toArray 4)) (grow ((grow (w.alloc (.cells (cU.map Value.bool).toArray 4)) g).alloc (.cells #[.int .i64 k,.string text,.slice kp j aP,.int .i64 place] 56)) (((g2.app g4).app g5).app g6)):=by
          repeat (first|exact Below.refl _ _|refine bG ?_ _|refine bI ?_ _ _|refine bA ?_ _)
         obtain⟨g7,h7⟩:=aC hb7;refine⟨⟨n+1,cU,g7,by omega,by go_num,h7,FI,hid ⟨fun i x hi hx2=>?_, ?_⟩⟩,by simp [intOf];omega⟩
         ·by_cases AJ:i<n
          ·exact hR.out.1 i x AJ hx2
          ·obtain rfl:i=n:=by omega
           rw [Hx.out] at hx2;cases hx2;exact⟨by simp only;omega,by simp only;omega,by simp only;omega,lz i kids us cU lN.out,by rw [Int.toNat_natCast];exact Hkb.out.symm,by rw [Int.toNat_natCast];simp only;rw [←Hq.out];exact Htb.out.symm,Heb.out.symm⟩
         ·rw [←hR.out.2,Hdr.out];exact(Di lN.out (by rw [Hok.out];rfl)).symm
     ·have Hb:=hid (jx (by unfold okB;simp only [decide_eq_false (show ¬((1:Int)≤kind∧kind≤36) from hki),Bool.and_false,Bool.false_and]));have Ra:=hid (fun W=>Np W kind af pk j ck af);clear jx;go_wp2_with (go_at_call 64;((with_reducible refine(Ra.out _).mono ?_));rintro e w' ⟨rfl,hb⟩;obtain⟨g4,rfl⟩:=aC hb;clear hb);exact Dk
  ·obtain rfl:n=L:=by omega
   have eA:bg ns=if n=0 then((0:Int),(60:Int)) else if p7 ns us then(if 200<lB ns then(0,61) else(0,0)) else((n:Int) - 1,60):=by
    exact Rb
   by_cases xR:n=0
   ·rw [if_pos xR] at eA;have Hb:=hid eA;have BJ:(n:Int) - 1<0:=af;clear eA;exact Jy
   rw [if_neg xR] at eA;have Hck:=hid eA;have BJ:¬((n:Int) - 1<0):=af;clear eA;go_wp2;go_loop [88] (fun i=>∃k:Nat,k≤n∧i=.int .i64 k∧Hid (∀m<k,(decide ((aq ns m=1)↔(m+1=ns.length)) && decide (us.getD m false=decide (m+1≠ns.length)))=true)) (fun i=>n - (intOf i).toNat)
   case atStart=>exact⟨0,by omega,rfl,hid fun m h=>absurd h af⟩
   case round=>
    obtain⟨k,hk,rfl,hK⟩:=hrel;by_cases Ra:k<n
    ·have oK:k<ns.length:=by have:=HL.out;omega
     obtain⟨b,o,rfl,hb,hx,hf,c0,c1,c2,c3⟩:=bh Ha.out oK;have hka:=aL hx;rw [←hka] at c0;have alz:k<us.length:=af;have Xe:us[k]=us.getD k false:=Rc;have k0:(0:Int)≤(k:Int):=af;have k1:(k:Int)<(n:Int):=af;obtain⟨kd,bW⟩:∃kd,kd=aq ns (k:Int):=⟨_,rfl⟩;obtain⟨ub,AP⟩:∃ub,ub=us.getD k false:=⟨_,rfl⟩;rw [←bW] at c0;rw [←AP] at Xe;have kH:=hid bW;have Hub:=hid AP;clear hka bW AP hx hf c1 c2 c3;have hno:¬((decide ((kd=1)↔(k+1=ns.length)) && decide (ub=decide (k+1≠ns.length)))=true)→bg ns=((n:Int) - 1,60):=fun h=>by
      exact Re
     have yM:(decide ((kd=1)↔(k+1=ns.length)) && decide (ub=decide (k+1≠ns.length)))=true→∀m<k+1,(decide ((aq ns m=1)↔(m+1=ns.length)) && decide (us.getD m false=decide (m+1≠ns.length)))=true:=fun h m hm=>by
      exact Rh
     by_cases hd:kd=1
     ·subst hd;by_cases hlk:(n:Int) - 1=(k:Int)
      ·have OZ:=hid hlk;have cD:k+1=ns.length:=nw;cases ub with
       |true=>
        have Hb:=hid (hno (by simp [cD]));exact adk
       |false=>
        have Hy:=hid (yM (by simp [cD]));exact Ri
      ·have cD:¬k+1=ns.length:=by have:=HL.out;omega
       have aqu:=cW (fun e=>hlk e.symm:(k:Int)≠(n:Int) - 1);cases ub with
       |true=>
        exact Rj
       |false=>
        exact Rj
     ·have xy:=cW hd;by_cases hlk:(n:Int) - 1=(k:Int)
      ·have OZ:=hid hlk;have cD:k+1=ns.length:=nw;cases ub with
       |true=>
        exact adl
       |false=>
        exact adl
      ·have cD:¬k+1=ns.length:=by have:=HL.out;omega
       have aqu:=cW (fun e=>hlk e.symm:(k:Int)≠(n:Int) - 1);cases ub with
       |true=>
        have Hy:=hid (yM (by simp [cD,hd]));exact Ri
       |false=>
        have Hb:=hid (hno (by simp [cD,hd]));clear hno yM cD;exact Jy
    ·obtain rfl:k=n:=by omega
     have FJ:p7 ns us=true:=by
      exact Rk
     have eA:=Hck.out;rw [if_pos FJ] at eA;have Rl:Hid (∀W,Below w.heap.size w W→Calls Tryz.prog 62 #[.slice p k c] W fun e w'=>e=.returned (.int .i64 (lB ns))∧Below W.heap.size W w'):=hid fun W hW=>by
      have h:=Nq p c ns W (ay.later Ha.out hW) Hs.out;rw [←HL.out] at h;exact h
     generalize lB ns=dp at*;by_cases Lu:200<dp
     ·rw [if_pos Lu] at eA;exact adm
     ·rw [if_neg Lu] at eA;exact adm
end Go.Proofs.YtjchnliaglecoaaGreatDoor

/- A part of the proof. Conditions: none. -/
set_option maxRecDepth 100000
set_option maxHeartbeats 8000000
namespace Go.Proofs.YtjchnliaglecoaaGreatDoor
open Go Go.RowKit Go.Nodes
def ot (ns:List Nd) (n:Int):List Int:=((ns[n.toNat]?).map (fun x=>x.kids)).getD []
def DW (ns:List Nd):Nat→Int→Int→List (Int × Int)
 |0,_,_=>[]
 |f+1,n,d=>(n,d)::(ot ns n).flatMap fun k=>DW ns f k (d+1)
def pre (ns:List Nd) (n d:Int):List (Int × Int):=DW ns (n.toNat+1) n d
def dD (ns:List Nd):Prop:=∀(n:Int),0≤n→∀k∈ot ns n,0≤k∧k<n
theorem qm {α β:Type} {l:List α} {f g:α→List β} (h:∀x∈l,f x=g x):l.flatMap f=l.flatMap g:=by
 induction l with
 |nil=>rfl
 |cons a l ih=>rw [List.flatMap_cons,List.flatMap_cons,h a ak,ih fun x hx=>h x (by simp [hx])]
theorem wJ {ns:List Nd} (ha:dD ns):∀(f g:Nat) (n d:Int),0≤n→n<f→n<g→DW ns f n d=DW ns g n d
 |0,_,n,_,h0,h1,_=>by omega
 |_+1,0,n,_,h0,_,h1=>by omega
 |f+1,g+1,n,d,h0,h1,h2=>by
  unfold DW;rw [qm fun k hk=>?_];have:=ha n h0 k hk;exact wJ ha f g k (d+1) af af af
theorem ahH {ns:List Nd} (ha:dD ns) (n d:Int) (h0:0≤n):pre ns n d=(n,d)::(ot ns n).flatMap fun k=>pre ns k (d+1):=by
 unfold pre
 conv=>lhs;unfold DW
 rw [qm fun k hk=>?_];have:=ha n h0 k hk;exact wJ ha _ _ k (d+1) af af af
theorem wK (ns:List Nd):∀(f:Nat) (n d e:Int),(DW ns f n d).length=(DW ns f n e).length
 |0,_,_,_=>rfl
 |f+1,n,d,e=>by
  unfold DW;simp only [List.length_cons,List.length_flatMap];congr 2;exact List.map_congr_left fun k _=>wK ns f k _ _
def wt (ns:List Nd) (n:Nat):Nat:=(pre ns n 0).length
theorem ZK (ns:List Nd) (n d:Int) (h:0≤n):(pre ns n d).length=wt ns n.toNat:=by
 unfold wt pre;rw [Int.toNat_natCast,Int.toNat_of_nonneg h];exact wK ns _ n d 0
theorem LK {ns:List Nd} (ha:dD ns) (n:Nat):wt ns n=1+((ot ns n).map fun k=>wt ns k.toNat).sum:=by
 conv=>lhs;unfold wt
 rw [ahH ha _ _ af,List.length_cons,List.length_flatMap,Nat.add_comm];congr 2;exact List.map_congr_left fun k hk=>ZK ns k _ (ha n af k hk).1
def qo (f:Nat→Nat) (u:List Bool):Nat→Nat
 |0=>0
 |m+1=>qo f u m+if u.getD m false then 0 else f m
theorem uk (f:Nat→Nat) (u:List Bool) (k:Nat):∀m,m≤k→qo f (u.set k true) m=qo f u m
 |0,_=>rfl
 |m+1,h=>by
  unfold qo;rw [uk f u k m af];congr 2;simp [List.getD,List.getElem?_set_ne (show k≠m by omega)]
theorem Gp (f:Nat→Nat) (u:List Bool) (k:Nat) (hk:k<u.length) (hu:u.getD k false=false):∀m,k<m→qo f (u.set k true) m+f k=qo f u m
 |0,h=>by omega
 |m+1,h=>by
  unfold qo;by_cases e:k=m
  ·subst e;rw [uk f u k k (Nat.le_refl _),hu];simp [List.getD,hk]
  ·have:=Gp f u k hk hu m af;have h2:(u.set k true).getD m false=u.getD m false:=by simp [List.getD,List.getElem?_set_ne e]
   rw [h2];omega
theorem vC (f:Nat→Nat) (n:Nat):∀(l:List Int) (u v:List Bool),n≤u.length→eF n l u=some v→qo f v n+(l.map fun k=>f k.toNat).sum=qo f u n
 |[],u,v,_,h=>by simp [eF] at h;subst h;simp
 |k::l,u,v,hn,h=>by
  unfold eF at h;split at h
  ·rename_i h2;have h3:=vC f n l _ _ (by simpa using hn) h;have h4:=Gp f u k.toNat af h2.2.2 n af;simp only [List.map_cons,List.sum_cons];omega
  ·cases h
theorem sQ {ns:List Nd} {n:Nat} {x:Nd} (h:ns[n]?=some x):ot ns n=x.kids:=by simp [ot,h]
theorem zu (ns:List Nd):∀(l:List Nd) (n:Nat) (u v:List Bool),ns.drop n=l→fh ns l n u=(none,v)→∀(m:Nat) (x:Nd),n≤m→ns[m]?=some x→∀k∈x.kids,0≤k∧k<m
 |[],n,u,v,hd,h,m,x,hm,hx,k,hk=>by
  have h1:=List.drop_eq_nil_iff.1 hd;have h2:=(List.getElem?_eq_some_iff.1 hx).1;omega
 |y::l,n,u,v,hd,h,m,x,hm,hx,k,hk=>by
  unfold fh at h;have hy:ns[n]?=some y:=by rw [←List.head?_drop,hd];rfl
  cases NX:eF n y.kids u with
  |none=>rw [NX] at h;cases h
  |some u2=>
   rw [NX] at h;simp only at h;split at h
   ·by_cases e:m=n
    ·subst e;rw [hy] at hx;cases hx;exact lz m _ _ _ NX k hk
    ·exact zu ns l (n+1) u2 v (by rw [←List.drop_drop,hd];rfl) h m x af hx k hk
   ·cases h
theorem Gq (ns:List Nd) (ha:dD ns):∀(l:List Nd) (n:Nat) (u v:List Bool),ns.drop n=l→n≤ns.length→u.length=ns.length→qo (wt ns) u n≤n→fh ns l n u=(none,v)→qo (wt ns) v ns.length≤ns.length
 |[],n,u,v,hd,hl2,hl,hs,h=>by
  have h1:=List.drop_eq_nil_iff.1 hd;cases h;have l7:n=ns.length:=Nat.le_antisymm hl2 h1;rw [←l7];exact hs
 |y::l,n,u,v,hd,hl2,hl,hs,h=>by
  unfold fh at h;have hy:ns[n]?=some y:=by rw [←List.head?_drop,hd];rfl
  have hn:n<ns.length:=(List.getElem?_eq_some_iff.1 hy).1;cases NX:eF n y.kids u with
  |none=>rw [NX] at h;cases h
  |some u2=>
   rw [NX] at h;simp only at h;split at h
   ·have h1:=vC (wt ns) n y.kids u u2 af NX;have h2:=LK ha n;rw [sQ hy] at h2;refine Gq ns ha l (n+1) u2 v (by rw [←List.drop_drop,hd];rfl) hn (by rw [qI n _ _ _ NX,hl]) ?_ h;unfold qo;split<;>omega
   ·cases h
theorem taken {ns:List Nd} (h:(bg ns).2=0):dD ns∧0<ns.length∧wt ns (ns.length - 1)≤ns.length:=by
 unfold bg at h;split at h
 ·simp at h
 ·rename_i v hs;split at h
  ·simp at h
  ·rename_i h0;split at h
   ·rename_i hr;have ha:dD ns:=by
     intro n hn k hk;obtain⟨m,rfl⟩:∃m:Nat,n=(m:Int):=⟨n.toNat,by omega⟩;cases hx:ns[m]? with
     |none=>simp [ot,hx] at hk
     |some x=>
      rw [sQ hx] at hk;exact zu ns ns 0 _ v rfl hs m x (Nat.zero_le _) hx k hk
    refine⟨ha,by omega, ?_⟩;have h2:=Gq ns ha ns 0 _ v rfl (Nat.zero_le _) ak (by simp [qo]) hs;have h3:=List.all_eq_true.1 hr (ns.length - 1) bt;simp only [Bool.and_eq_true,decide_eq_true_eq] at h3;have h4:=h3.2;rw [show ns.length - 1+1=ns.length by omega] at h4;simp only [ne_eq,not_true_eq_false,decide_false] at h4;rw [show ns.length=(ns.length - 1)+1 by omega] at h2;unfold qo at h2;rw [h4] at h2;simp at h2;omega
   ·simp at h
end Go.Proofs.YtjchnliaglecoaaGreatDoor

/- A part of the proof. Conditions: none. -/
set_option maxRecDepth 100000
set_option maxHeartbeats 8000000
namespace Go.Proofs.YtjchnliaglecoaaGreatDoor
open Go Go.RowKit Go.Nodes
theorem sI {B:Nat} {w w':World} {v:Value} {l:List Int} {row:Option Nat} (h:Ints B w v l) (hg:w.grownBy w' row) (hne:∀g,v.ownBlock=some g→row≠some g):Ints B w' v l:=by
 obtain⟨h1,h2⟩:=h;refine⟨h1, ?_⟩;rcases h2 with h2|⟨g,cap,cur,hv,hg',hh,hr⟩
 ·exact Or.inl h2
 ·exact Or.inr ⟨g,cap,cur,hv,hg',by rw [hg.block g (Array.getElem?_eq_some_iff.1 hh).1 (fun e=>hne g (by rw [hv];rfl) e.symm)];exact hh,hr⟩
theorem Zh {B:Nat} {w:World} {v:Value} {l:List Int} (h:Ints B w v l):∀g,v.ownBlock=some g→g<w.heap.size:=by
 intro g hg;obtain⟨c,fz,h2⟩:=Go.Lib.ownsRow_kind h g hg;exact(Array.getElem?_eq_some_iff.1 h2).1
structure gh (B:Nat) (w:World) (fl:List Value) (ls:List (List Int)):Prop where
 len:fl.length=ls.length
 rows:∀(i:Nat) (v:Value) (l:List Int),fl[i]?=some v→ls[i]?=some l→Ints B w v l
 apart:∀(i j:Nat) (v u:Value),i≠j→fl[i]?=some v→fl[j]?=some u→∀g,v.ownBlock=some g→u.ownBlock≠some g
theorem gh.later {B:Nat} {w w':World} {fl:List Value} {ls:List (List Int)} (h:gh B w fl ls) (hb:Below w.heap.size w w'):gh B w' fl ls:=
 ⟨h.len,fun i v l a b=>bR (h.rows i v l a b) hb,h.apart⟩
theorem gh.put {B:Nat} {w w3:World} {fl:List Value} {ls:List (List Int)} {v v':Value} {l':List Int} (h:gh B w fl ls) (j:Nat) (hj:fl[j]?=some v) (hg:w.grownBy w3 v.ownBlock)
  (hown:Ints B w3 v' l') (vp:v'.ownBlock=v.ownBlock∨v'.ownBlock=some w.heap.size):gh B w3 (fl.set j v') (ls.set j l'):=by
 have pE:j<fl.length:=(List.getElem?_eq_some_iff.1 hj).1;refine⟨by simpa using h.len,fun i u l hu hl=>?_,fun i k u z hik hu hz g Al=>?_⟩
 ·rw [List.getElem?_set] at hu hl;by_cases e:j=i
  ·subst e;rw [if_pos rfl,if_pos pE] at hu;rw [if_pos rfl,if_pos (by have:=h.len;omega)] at hl;cases hu;cases hl;exact hown
  ·rw [if_neg e] at hu hl;exact sI (h.rows i u l hu hl) hg fun g hg'=>fun e2=>h.apart j i v u e hj hu g e2 hg'
 ·have hold:∀(i:Nat) (u:Value),fl[i]?=some u→∀g,u.ownBlock=some g→g<w.heap.size:=fun i u hu g Al=>by
   have hi:i<ls.length:=by rw [←h.len];exact(List.getElem?_eq_some_iff.1 hu).1
   exact Zh (h.rows i u _ hu (List.getElem?_eq_getElem hi)) g Al
  rw [List.getElem?_set] at hu hz;by_cases e:j=i
  ·subst e;rw [if_pos rfl,if_pos pE] at hu;rw [if_neg hik] at hz;cases hu;intro O2;rcases vp with hw|hw
   ·exact h.apart j k v z hik hj hz g (by rw [←hw];exact Al) O2
   ·rw [hw] at Al;cases Al;exact absurd (hold k z hz _ O2) af
  ·rw [if_neg e] at hu;by_cases e2:j=k
   ·subst e2;rw [if_pos rfl,if_pos pE] at hz;cases hz;intro O2;rcases vp with hw|hw
    ·exact h.apart i j u v hik hu hj g Al (by rw [←hw];exact O2)
    ·rw [hw] at O2;cases O2;exact absurd (hold i u hu _ Al) af
   ·rw [if_neg e2] at hz;exact h.apart i k u z hik hu hz g Al
end Go.Proofs.YtjchnliaglecoaaGreatDoor

/- A part of the proof. Conditions: none. -/
set_option maxRecDepth 100000
set_option maxHeartbeats 8000000
namespace Go.Proofs.YtjchnliaglecoaaGreatDoor
open Go Go.RowKit Go.Nodes
theorem bK {w w':World} (hb:Below w.heap.size w w'):w.grownBy w' none:=⟨hb.os,hb.tape,hb.output,hb.size,fun n h _=>hb.block n h⟩
theorem cq {w:World} {b:Nat} {cs:Array Value} {t:TypeId} (h:w.heap[b]?=some (.cells cs t (0,0))) (i:Nat) (u:Value):(w.setCell ⟨b,i,none⟩ u).heap[b]?=some (.cells (cs.setIfInBounds i u) t (0,0)):=by
 have hlt:=(Array.getElem?_eq_some_iff.1 h).1;have h':w.heap[b]=.cells cs t (0,0):=by simpa [Array.getElem?_eq_getElem hlt] using h
 show(w.heap.modify b _)[b]?=_;rw [Array.getElem?_eq_getElem (by simpa using hlt),Array.getElem_modify_self,h'];rfl
end Go.Proofs.YtjchnliaglecoaaGreatDoor

/- A part of the proof. Conditions: none. -/
set_option maxRecDepth 100000
set_option maxHeartbeats 8000000
namespace Go.Proofs.YtjchnliaglecoaaGreatDoor
open Go Go.RowKit Go.Nodes
structure Vr where
 node:Int
 fn:Int
 taken:Bool
 set:Bool
structure Fs where
 vars:List Vr
 uses:List Int
 funcs:List Int
 cF:List Int
 seen:List Int
 many:List Int
 bE:Int
 e:Int
def dS (ns:List Nd) (n:Int):List UInt8:=match ns[n.toNat]? with
 |some x=>x.text.toList
 |none=>[]
def ax (ns:List Nd) (n:Int):List Int:=match ns[n.toNat]? with
 |some x=>x.kids
 |none=>[]
def bB (s:Fs) (n e:Int):Fs:=if s.e=0 then {s with bE:=n,e:=e} else s
def bY (s:Fs) (fn:Int):Fs:={s with many:=s.many.set fn.toNat (s.many.getD fn.toNat 0+1)}
def kD (s:Fs) (n fn:Int):Fs:={s with uses:=s.uses.set n.toNat s.vars.length,seen:=s.seen++[(s.vars.length:Int)],vars:=s.vars++[⟨n,fn,false,false⟩]}
def cY (ns:List Nd) (s:Fs) (n fn:Int):Fs:=
 let s1:=bY (if 0≤bn (dS ns n) then bB s n 110 else s) fn
 kD (if 200<s1.many.getD fn.toNat 0 then bB s1 n 2 else s1) n fn
def fP (s:Fs) (v:Int):Int:=match s.vars[v.toNat]? with
 |some x=>x.node
 |none=>0
def bT (s:Fs) (n v fn:Int) (set:Bool):Fs:=
 {s with uses:=s.uses.set n.toNat v,vars:=s.vars.modify v.toNat fun x=>{x with taken:=x.taken||(x.fn !=fn),set:=x.set||set}}
def jq (ns:List Nd) (s:Fs) (n fn:Int) (set:Bool):Fs:=match s.seen.reverse.find? (fun v=>dS ns (fP s v)==dS ns n) with
 |some v=>bT s n v fn set
 |none=>bB s n 110
def cg (ns:List Nd) (fn:Int):List Int→List Int→Fs→Fs
 |_,[],s=>s
 |pre,k::ks,s=>cg ns fn (pre++[k]) ks (cY ns (pre.foldl (fun s m=>if dS ns k==dS ns m then bB s k 110 else s) s) k fn)
def j9 (ns:List Nd) (node:Int→Int→Bool→Fs→Fs) (n up:Int) (s:Fs):Fs:=
 let fn:Int:=s.funcs.length
 let s1:={s with funcs:=s.funcs++[n],cF:=s.cF++[up],many:=s.many++[0]}
 let kids:=ax ns n
 let s2:=node (kids.getD (kids.length - 1) 0) fn false (cg ns fn [] (kids.take (kids.length - 2)) s1)
 {s2 with seen:=s2.seen.take s.seen.length}
def aA (ns:List Nd):Nat→Int→Int→Bool→Fs→Fs
 |0,_,_,_,s=>s
 |k+1,n,fn,loop,s=>if s.e≠0 then s else
  let kids:=ax ns n
  if aq ns n=17 then jq ns s n fn false
  else if aq ns n=11 then(if loop then s else bB s n 111)
  else if aq ns n=22 then j9 ns (aA ns k) n fn s
  else if aq ns n=4 then(let s1:=aA ns k (kids.getD 1 0) fn loop s;if s1.e=0 then cY ns s1 n fn else s1)
  else if aq ns n=5 then aA ns k (kids.getD 0 0) fn loop (cY ns s n fn)
  else if aq ns n=6 then aA ns k (kids.getD 1 0) fn loop (if aq ns (kids.getD 0 0)=17 then jq ns s (kids.getD 0 0) fn true else aA ns k (kids.getD 0 0) fn loop s)
  else if aq ns n=9 then aA ns k (kids.getD 1 0) fn true (aA ns k (kids.getD 0 0) fn loop s)
  else
   let s1:=kids.foldl (fun s q=>aA ns k q fn loop s) s
   if aq ns n=3 then {s1 with seen:=s1.seen.take s.seen.length} else s1
def cB (ns:List Nd):Fs:=
 let kids:=ax ns ((ns.length:Int) - 1)
 aA ns ns.length (kids.getD (kids.length - 1) 0) 0 false ⟨[],List.replicate ns.length (-1),[-1],[-1],[],[0],0,0⟩
structure cN (L:Nat) (s:Fs):Prop where
 uses:s.uses.length=L
 seen:∀v∈s.seen,0≤v∧v<s.vars.length
 nodes:∀x∈s.vars,0≤x.node∧x.node<L
 few:s.seen.length≤s.vars.length
 many:s.many.length=s.funcs.length
 cF:s.cF.length=s.funcs.length
 counts:∀m∈s.many,0≤m∧m≤s.vars.length
def Vr.cells (x:Vr):List Value:=[.int .i64 x.node,.int .i64 x.fn,.bool x.taken,.bool x.set]
def cx (vs:List Vr):List Value:=(vs.map Vr.cells).flatten
theorem zI (vs:List Vr) (x:Vr):cx (vs++[x])=cx vs++x.cells:=by simp [cx]
theorem Oe (vs:List Vr):(cx vs).length=vs.length*4:=by
 induction vs with
 |nil=>rfl
 |cons x vs ih=>simp [cx,Vr.cells] at ih ⊢;omega
theorem uW:∀(vs:List Vr) (i:Nat) (h:i<vs.length) (j:Nat),j<4→(cx vs)[i*4+j]?=(vs[i].cells)[j]?
 |[],i,h,j,hj=>by simp at h
 |x::vs,0,h,j,hj=>by
  show(x.cells++cx vs)[0*4+j]?=_;rw [List.getElem?_append_left (by simp [Vr.cells];omega)];simp
 |x::vs,i+1,h,j,hj=>by
  show(x.cells++cx vs)[(i+1)*4+j]?=_;rw [List.getElem?_append_right (by simp [Vr.cells];omega),show(i+1)*4+j - x.cells.length=i*4+j by simp [Vr.cells];omega];exact uW vs i oI j hj
def Fs.rows (s:Fs):List (List Int):=[s.uses,s.funcs,s.cF,s.seen,s.many]
structure cC (FB:Nat) (p:Option Addr) (c L:Nat) (W:World) (s:Fs) (v0 v1 v2 v3 v4 v5:Value):Prop where
 heap:W.heap[FB]?=some (.cells #[.slice p L c,v0,v1,v2,v3,v4,v5,.int .i64 s.bE,.int .i64 s.e] 63 (0,0))
 rows:gh (FB+1) W [v1,v2,v3,v4,v5] s.rows
 vars:W.ownsRow (FB+1) 114 4 v0 s.vars.length (cx s.vars)
def Qm (FB:Nat) (p:Option Addr) (c L:Nat) (W:World) (s:Fs):Prop:=∃v0 v1 v2 v3 v4 v5,cC FB p c L W s v0 v1 v2 v3 v4 v5
section
variable {FB:Nat} {p:Option Addr} {c L:Nat} {W W':World} {s s':Fs} {v0 v1 v2 v3 v4 v5:Value}
theorem cC.lt (h:cC FB p c L W s v0 v1 v2 v3 v4 v5):FB<W.heap.size:=(Array.getElem?_eq_some_iff.1 h.heap).1
theorem cC.later (h:cC FB p c L W s v0 v1 v2 v3 v4 v5) (hb:Below W.heap.size W W'):cC FB p c L W' s v0 v1 v2 v3 v4 v5:=
 ⟨by rw [hb.block _ h.lt];exact h.heap,h.rows.later hb,bR h.vars hb⟩
theorem cC.cell (h:cC FB p c L W s v0 v1 v2 v3 v4 v5) (k:Nat):W.cell? ⟨FB,k,none⟩=(#[Value.slice p L c,v0,v1,v2,v3,v4,v5,.int .i64 s.bE,.int .i64 s.e]:Array Value)[k]?:=by
 simp [World.cell?,h.heap]
theorem cC.frozen (h:cC FB p c L W s v0 v1 v2 v3 v4 v5) (k:Nat):W.frozen? ⟨FB,k,none⟩=false:=by simp [World.frozen?,h.heap]
theorem Dz {B FB:Nat} {W:World} {v:Value} {l:List Int} (h:Ints B W v l) {cs:Array Value} {T:TypeId} (hx:W.heap[FB]?=some (.cells cs T (0,0))) (hT:T≠3):v.ownBlock≠some FB:=fun e=>by
 obtain⟨cc,fz,hh⟩:=Lib.ownsRow_kind h _ e;rw [hx] at hh;cases hh;exact hT rfl
theorem iL {B FB:Nat} {W:World} {v:Value} {n:Nat} {xs:List Value} (h:W.ownsRow B 114 4 v n xs) {cs:Array Value} {T:TypeId} (hx:W.heap[FB]?=some (.cells cs T (0,0))) (hT:T≠114):v.ownBlock≠some FB:=fun e=>by
 obtain⟨cc,fz,hh⟩:=Lib.ownsRow_kind h _ e;rw [hx] at hh;cases hh;exact hT rfl
theorem qq {B:Nat} {W:World} {v u:Value} {l:List Int} {n:Nat} {xs:List Value} (h:Ints B W v l) (k:W.ownsRow B 114 4 u n xs):∀g,v.ownBlock=some g→u.ownBlock≠some g:=fun g e e2=>by
 obtain⟨cc,fz,hh⟩:=Lib.ownsRow_kind h _ e;obtain⟨cc2,fz2,Jc⟩:=Lib.ownsRow_kind k _ e2;rw [hh] at Jc;cases Jc
theorem dY (W:World) (g i:Nat) (x:Value):W.grownBy (W.setCell ⟨g,i,none⟩ x) (some g):=
 ⟨rfl,rfl,rfl,by simp,fun n hn hne=>Below.heap_setCell _ _ _ _ (by simpa using hne)⟩
theorem cC.s7 {W1:World} (h:cC FB p c L W s v0 v1 v2 v3 v4 v5) (j:Nat) {v v':Value} {l':List Int} (hj:[v1,v2,v3,v4,v5][j]?=some v) (hg:W.grownBy W1 v.ownBlock) (hown:Ints (FB+1) W1 v' l')
  (vp:v'.ownBlock=v.ownBlock∨v'.ownBlock=some W.heap.size):
  W1.heap[FB]?=some (.cells #[.slice p L c,v0,v1,v2,v3,v4,v5,.int .i64 s.bE,.int .i64 s.e] 63 (0,0))∧gh (FB+1) W1 ([v1,v2,v3,v4,v5].set j v') (s.rows.set j l')∧W1.ownsRow (FB+1) 114 4 v0 s.vars.length (cx s.vars):=by
 have hi:j<s.rows.length:=by rw [←h.rows.len];exact(List.getElem?_eq_some_iff.1 hj).1
 have hI:=h.rows.rows j v _ hj (List.getElem?_eq_getElem hi);have hne:=Dz hI h.heap aj;refine⟨by rw [hg.block FB h.lt (fun e=>hne e.symm)];exact h.heap,h.rows.put j hj hg hown vp,h.vars.kept hg ?_⟩;exact Si
theorem Ad {B:Nat} {g c:Nat} {l:List Int} (h:Ints B W (.slice (some ⟨g,0,none⟩) l.length c) l) (i:Nat) (hi:i<l.length) (x:Int):Ints B (W.setCell ⟨g,i,none⟩ (.int .i64 x)) (.slice (some ⟨g,0,none⟩) l.length c) (l.set i x):=by
 refine⟨by simp, ?_⟩;rcases h.2 with⟨h1,h2⟩|⟨g',cap,cur,hv,hg,hh,hn,hm,hsz,uV⟩
 ·cases h1
 ·cases hv;refine .inr ⟨g,c,_,by simp,hg,cq hh i _,by simpa using hn,hm,by simpa using hsz, ?_⟩;rw [List.length_set,List.map_set,←uV,Array.toList_setIfInBounds,List.take_set]
theorem cC.WI {W1:World} (h:cC FB p c L W s v0 v1 v2 v3 v4 v5) {v':Value} {l':List Int} (hg:W.grownBy W1 v1.ownBlock) (hown:Ints (FB+1) W1 v' l') (vp:v'.ownBlock=v1.ownBlock∨v'.ownBlock=some W.heap.size):
  cC FB p c L (W1.setCell ⟨FB,2,none⟩ v') {s with uses:=l'} v0 v' v2 v3 v4 v5:=by
 obtain⟨h1,h2,h3⟩:=h.s7 0 rfl hg hown vp;have hg2:=dY W1 FB 2 v';exact afh
theorem cC.iR (h:cC FB p c L W s v0 v1 v2 v3 v4 v5) {g cp i:Nat} (hv:v1=.slice (some ⟨g,0,none⟩) s.uses.length cp) (hi:i<s.uses.length) (x:Int):
  cC FB p c L (W.setCell ⟨g,i,none⟩ (.int .i64 x)) {s with uses:=s.uses.set i x} v0 v1 v2 v3 v4 v5:=by
 have hI:=h.rows.rows 0 _ _ rfl rfl;subst hv;obtain⟨h1,h2,h3⟩:=h.s7 (W1:=W.setCell ⟨g,i,none⟩ (.int .i64 x)) (v':=.slice (some ⟨g,0,none⟩) s.uses.length cp) (l':=s.uses.set i x) 0 rfl (dY W g i _) (by have:=Ad hI i hi x;simpa using this) (.inl rfl);exact⟨h1,h2,h3⟩
theorem cC.Xb {W1:World} (h:cC FB p c L W s v0 v1 v2 v3 v4 v5) {v':Value} {l':List Int} (hg:W.grownBy W1 v4.ownBlock) (hown:Ints (FB+1) W1 v' l') (vp:v'.ownBlock=v4.ownBlock∨v'.ownBlock=some W.heap.size):
  cC FB p c L (W1.setCell ⟨FB,5,none⟩ v') {s with seen:=l'} v0 v1 v2 v3 v' v5:=by
 obtain⟨h1,h2,h3⟩:=h.s7 3 rfl hg hown vp;exact Ub
theorem cC.Hj (h:cC FB p c L W s v0 v1 v2 v3 v4 v5) {g cp i:Nat} (hv:v5=.slice (some ⟨g,0,none⟩) s.many.length cp) (hi:i<s.many.length) (x:Int):
  cC FB p c L (W.setCell ⟨g,i,none⟩ (.int .i64 x)) {s with many:=s.many.set i x} v0 v1 v2 v3 v4 v5:=by
 have hI:=h.rows.rows 4 _ _ rfl rfl;subst hv;obtain⟨h1,h2,h3⟩:=h.s7 (W1:=W.setCell ⟨g,i,none⟩ (.int .i64 x)) (v':=.slice (some ⟨g,0,none⟩) s.many.length cp) (l':=s.many.set i x) 4 rfl (dY W g i _) (by have:=Ad hI i hi x;simpa using this) (.inl rfl);exact⟨h1,h2,h3⟩
theorem cC.Fv (h:cC FB p c L W s v0 v1 v2 v3 v4 v5) {v':Value} {l':List Int} (hown:Ints (FB+1) W v' l') (he:v'.ownBlock=v4.ownBlock):
  cC FB p c L (W.setCell ⟨FB,5,none⟩ v') {s with seen:=l'} v0 v1 v2 v3 v' v5:=
 h.Xb (W1:=W) ⟨rfl,rfl,rfl,Nat.le_refl _,fun _ _ _=>rfl⟩ hown (.inl he)
theorem cC.zJ {W1:World} (h:cC FB p c L W s v0 v1 v2 v3 v4 v5) {v':Value} {l':List Vr} (hg:W.grownBy W1 v0.ownBlock) (hown:W1.ownsRow (FB+1) 114 4 v' l'.length (cx l')):
  cC FB p c L (W1.setCell ⟨FB,1,none⟩ v') {s with vars:=l'} v' v1 v2 v3 v4 v5:=by
 have hne:=iL h.vars h.heap aj;have h1:W1.heap[FB]?=some (.cells #[.slice p L c,v0,v1,v2,v3,v4,v5,.int .i64 s.bE,.int .i64 s.e] 63 (0,0)):=by rw [hg.block FB h.lt (fun e=>hne e.symm)];exact h.heap
 have hg2:=dY W1 FB 1 v';refine⟨by rw [cq h1 _ _];rfl,⟨h.rows.len,fun i v l a b=>eL (sI (h.rows.rows i v l a b) hg fun g e e2=>qq (h.rows.rows i v l a b) h.vars g e e2) _ af,h.rows.apart⟩,hown.kept hg2 (.inr (iL hown h1 aj))⟩
theorem cC.zy {W1:World} (h:cC FB p c L W s v0 v1 v2 v3 v4 v5) {l':List Vr} (hg:W.grownBy W1 v0.ownBlock) (hown:W1.ownsRow (FB+1) 114 4 v0 l'.length (cx l')):
  cC FB p c L W1 {s with vars:=l'} v0 v1 v2 v3 v4 v5:=by
 have hne:=iL h.vars h.heap aj;refine⟨by rw [hg.block FB h.lt (fun e=>hne e.symm)];exact h.heap,⟨h.rows.len,fun i v l a b=>sI (h.rows.rows i v l a b) hg fun g e e2=>qq (h.rows.rows i v l a b) h.vars g e e2,h.rows.apart⟩,hown⟩
theorem cC.aqv (h:cC FB p c L W s v0 v1 v2 v3 v4 v5) (x:Int):cC FB p c L (W.setCell ⟨FB,7,none⟩ (.int .i64 x)) {s with bE:=x} v0 v1 v2 v3 v4 v5:=by
 have hg:W.grownBy (W.setCell ⟨FB,7,none⟩ (.int .i64 x)) (some FB):=⟨rfl,rfl,rfl,by simp,fun n hn hne=>Below.heap_setCell _ _ _ _ (by simpa using hne)⟩;exact TS
theorem cC.aqw (h:cC FB p c L W s v0 v1 v2 v3 v4 v5) (x:Int):cC FB p c L (W.setCell ⟨FB,8,none⟩ (.int .i64 x)) {s with e:=x} v0 v1 v2 v3 v4 v5:=by
 have hg:W.grownBy (W.setCell ⟨FB,8,none⟩ (.int .i64 x)) (some FB):=⟨rfl,rfl,rfl,by simp,fun n hn hne=>Below.heap_setCell _ _ _ _ (by simpa using hne)⟩;exact TS
end
end Go.Proofs.YtjchnliaglecoaaGreatDoor

/- A part of the proof. Conditions: none. -/
set_option maxRecDepth 100000
set_option maxHeartbeats 8000000
namespace Go.Proofs.YtjchnliaglecoaaGreatDoor
open Go Go.RowKit Go.Nodes
structure fI (L N:Nat) (s s':Fs):Prop where
 inv:cN L s'
 f0:s.funcs.length≤s'.funcs.length
 f1:s'.funcs.length≤s.funcs.length+N
 v0:s.vars.length≤s'.vars.length
 v1:s'.vars.length≤s.vars.length+N
 seen:s.seen.length≤s'.seen.length
theorem fI.refl {L:Nat} {s:Fs} (h:cN L s) (N:Nat):fI L N s s:=⟨h,Nat.le_refl _,by omega,Nat.le_refl _,by omega,Nat.le_refl _⟩
theorem fI.trans {L M N:Nat} {a b c:Fs} (h:fI L M a b) (k:fI L N b c):fI L (M+N) a c:=
 ⟨k.inv,Nat.le_trans h.f0 k.f0,by have:=h.f1;have:=k.f1;omega,Nat.le_trans h.v0 k.v0,by have:=h.v1;have:=k.v1;omega,Nat.le_trans h.seen k.seen⟩
theorem fI.le {L M N:Nat} {a b:Fs} (h:fI L M a b) (hMN:M≤N):fI L N a b:=⟨h.inv,h.f0,by have:=h.f1;omega,h.v0,by have:=h.v1;omega,h.seen⟩
theorem BX {L:Nat} {s:Fs} (h:cN L s) (n e:Int):cN L (bB s n e):=by
 unfold bB;split
 ·exact⟨h.uses,h.seen,h.nodes,h.few,h.many,h.cF,h.counts⟩
 ·exact h
theorem eR (s:Fs) (n e:Int):(bB s n e).vars=s.vars∧(bB s n e).uses=s.uses∧(bB s n e).funcs=s.funcs∧(bB s n e).cF=s.cF∧(bB s n e).seen=s.seen∧(bB s n e).many=s.many:=by
 unfold bB;split<;>exact⟨rfl,rfl,rfl,rfl,rfl,rfl⟩
theorem vr {L:Nat} {s:Fs} (h:cN L s) (n e:Int) (N:Nat):fI L N s (bB s n e):=by
 obtain⟨h1,_,h2,_,h3,_⟩:=eR s n e;exact⟨BX h n e,by rw [h2];exact Nat.le_refl _,by rw [h2];omega,by rw [h1];exact Nat.le_refl _,by rw [h1];omega,by rw [h3];exact Nat.le_refl _⟩
theorem jI {L:Nat} {s:Fs} (h:cN L s) (ns:List Nd) (n fn:Int) (hn:0≤n∧n<L):fI L 1 s (cY ns s n fn):=by
 have key:∀(s0:Fs),s0.vars=s.vars→s0.uses=s.uses→s0.funcs=s.funcs→s0.cF=s.cF→s0.seen=s.seen→(∀m∈s0.many,0≤m∧m≤s.vars.length+1)→s0.many.length=s.funcs.length→fI L 1 s (kD s0 n fn):=by
  intro s0 e1 e2 e3 e4 e5 e6 e7;have hl:(kD s0 n fn).vars.length=s.vars.length+1:=by simp [kD,e1]
  refine⟨⟨?_, ?_, ?_, ?_, ?_, ?_, ?_⟩, ?_, ?_, ?_, ?_, ?_⟩
  ·simp [kD,e2,h.uses]
  ·intro v hv;rw [hl];simp only [kD,e5,e1,List.mem_append,List.mem_singleton] at hv;rcases hv with hv|hv
   ·have:=h.seen v hv;omega
   ·subst hv;omega
  ·intro x hx;simp only [kD,e1,List.mem_append,List.mem_singleton] at hx;rcases hx with hx|hx
   ·exact h.nodes x hx
   ·subst hx;exact hn
  ·rw [hl];simp only [kD,e5,List.length_append,List.length_singleton];have:=h.few;omega
  ·show s0.many.length=s0.funcs.length;rw [e7,e3]
  ·show s0.cF.length=s0.funcs.length;rw [e4,e3];exact h.cF
  ·intro m hm;rw [hl];have:=e6 m hm;omega
  ·show s.funcs.length≤s0.funcs.length;rw [e3];exact Nat.le_refl _
  ·show s0.funcs.length≤_;rw [e3];omega
  ·rw [hl];omega
  ·rw [hl];exact Nat.le_refl _
  ·simp only [kD,e5,List.length_append,List.length_singleton];omega
 unfold cY;simp only;have hb:∀(s0:Fs),s0.many=s.many→∀m∈(bY s0 fn).many,0≤m∧m≤s.vars.length+1:=by
  intro s0 e m hm;simp only [bY,e] at hm;rcases List.mem_or_eq_of_mem_set hm with hm|hm
  ·have:=h.counts m hm;omega
  ·subst hm;by_cases hlt:fn.toNat<s.many.length
   ·have:=h.counts _ (List.getElem_mem hlt);rw [List.getD_eq_getElem?_getD,List.getElem?_eq_getElem hlt];simp only [Option.getD_some];omega
   ·rw [List.getD_eq_getElem?_getD,List.getElem?_eq_none af];simp;omega
 have hbl:∀(s0:Fs),s0.many=s.many→(bY s0 fn).many.length=s.funcs.length:=fun s0 e=>by simp [bY,e,h.many]
 obtain⟨t,ht,a1,a2,a3,a4,a5,a6⟩:∃t,t=(if 0≤bn (dS ns n) then bB s n 110 else s)∧t.vars=s.vars∧t.uses=s.uses∧t.funcs=s.funcs∧t.cF=s.cF∧t.seen=s.seen∧t.many=s.many:=by
  refine⟨_,rfl, ?_⟩;split
  ·exact eR s n 110
  ·exact⟨rfl,rfl,rfl,rfl,rfl,rfl⟩
 rw [←ht];split
 ·obtain⟨b1,b2,b3,b4,b5,b6⟩:=eR (bY t fn) n 2;exact key _ (b1.trans a1) (b2.trans a2) (b3.trans a3) (b4.trans a4) (b5.trans a5) (by rw [b6];exact hb t a6) (by rw [b6];exact hbl t a6)
 ·exact key _ a1 a2 a3 a4 a5 (hb t a6) (hbl t a6)
theorem BZ {L:Nat} {s:Fs} (h:cN L s) (n v fn:Int) (set:Bool) (N:Nat):fI L N s (bT s n v fn set):=by
 have hl:(bT s n v fn set).vars.length=s.vars.length:=by simp [bT]
 refine⟨⟨by simp [bT,h.uses],fun w hw=>by rw [hl];exact h.seen w hw,fun x hx=>?_,by rw [hl];exact h.few,h.many,h.cF,fun m hm=>by rw [hl];exact h.counts m hm⟩,Nat.le_refl _,by show s.funcs.length≤_;omega,by omega,by omega,Nat.le_refl _⟩;simp only [bT] at hx;obtain⟨i,hi,rfl⟩:=List.getElem_of_mem hx;rw [List.getElem_modify];have xe:i<s.vars.length:=rZ;split
 ·exact h.nodes s.vars[i] (List.getElem_mem xe)
 ·exact h.nodes s.vars[i] (List.getElem_mem xe)
theorem tJ {L:Nat} {s:Fs} (h:cN L s) (ns:List Nd) (n fn:Int) (set:Bool) (N:Nat):fI L N s (jq ns s n fn set):=by
 unfold jq;split
 ·exact BZ h _ _ _ _ _
 ·exact vr h _ _ _
theorem y8 {L:Nat} (ns:List Nd) (k:Int):∀(pre:List Int) {s:Fs},cN L s→fI L 0 s (pre.foldl (fun s m=>if dS ns k==dS ns m then bB s k 110 else s) s)
 |[],s,h=>fI.refl h 0
 |m::pre,s,h=>by
  rw [List.foldl_cons];have h1:fI L 0 s (if dS ns k==dS ns m then bB s k 110 else s):=by
   split
   ·exact vr h _ _ _
   ·exact fI.refl h 0
  exact h1.trans (y8 ns k pre h1.inv)
theorem lU {L:Nat} (ns:List Nd) (fn:Int):∀(ks pre:List Int) {s:Fs},cN L s→(∀k∈ks,0≤k∧k<(L:Int))→fI L ks.length s (cg ns fn pre ks s)
 |[],_,s,h,_=>fI.refl h _
 |k::ks,pre,s,h,hk=>by
  unfold cg;have h1:=y8 ns k pre h;have h2:=jI h1.inv ns k fn (hk k ak);have h3:=lU ns fn ks (pre++[k]) h2.inv (fun q hq=>hk q (by simp [hq]));refine((h1.trans h2).trans h3).le ?_;simp only [List.length_cons];omega
theorem F3 {L N:Nat} {s s1:Fs} (h:fI L N s s1):fI L N s {s1 with seen:=s1.seen.take s.seen.length}:=
 ⟨⟨h.inv.uses,fun v hv=>h.inv.seen v (List.mem_of_mem_take hv),h.inv.nodes,by show(s1.seen.take s.seen.length).length≤s1.vars.length;rw [List.length_take];have:=h.inv.few;omega,h.inv.many,h.inv.cF,h.inv.counts⟩,h.f0,h.f1,h.v0,h.v1,by show _≤(s1.seen.take s.seen.length).length;rw [List.length_take];have:=h.seen;omega⟩
def dV (s:Fs) (n up:Int):Fs:={s with funcs:=s.funcs++[n],cF:=s.cF++[up],many:=s.many++[0]}
theorem n7 {L:Nat} {s:Fs} (h:cN L s) (n up:Int):fI L 1 s (dV s n up):=by
 refine⟨⟨h.uses,h.seen,h.nodes,h.few, ?_, ?_, ?_⟩, ?_, ?_,Nat.le_refl _,by show s.vars.length≤_;omega,Nat.le_refl _⟩
 ·simp [dV,h.many]
 ·simp [dV,h.cF]
 ·intro m hm;simp only [dV,List.mem_append,List.mem_singleton] at hm;rcases hm with hm|hm
  ·exact h.counts m hm
  ·subst hm;show 0≤(0:Int)∧(0:Int)≤(s.vars.length:Int);omega
 ·simp [dV]
 ·simp [dV]
def fV (ns:List Nd) (l:List Int):Nat:=(l.map fun k=>wt ns k.toNat).sum
theorem fQ {ns:List Nd} (ha:dD ns) (n:Nat):1≤wt ns n:=by rw [LK ha];omega
theorem gq {ns:List Nd} (ha:dD ns):∀l:List Int,l.length≤fV ns l
 |[]=>Nat.le_refl _
 |k::l=>by
  have h1:=fQ ha k.toNat;have h2:=gq ha l;simp only [fV,List.map_cons,List.sum_cons,List.length_cons] at*;omega
theorem CM (ns:List Nd) (a b:List Int):fV ns (a++b)=fV ns a+fV ns b:=by simp [fV]
theorem eB {ns:List Nd}:∀(l:List Int) (i:Nat) (h:i<l.length),fV ns (l.take i)+wt ns (l[i]).toNat≤fV ns l
 |k::l,0,h=>by simp [fV]
 |k::l,i+1,h=>by
  have:=eB (ns:=ns) l i oI;simp only [fV,List.take_succ_cons,List.map_cons,List.sum_cons,List.getElem_cons_succ] at*;omega
theorem B0 (ns:List Nd) (n:Int):ax ns n=ot ns n:=by
 unfold ax ot;cases ns[n.toNat]?<;>rfl
structure Tree (ns:List Nd):Prop where
 ahead:dD ns
 pre:oY ns ns.length
theorem bH {ns:List Nd} (ht:Tree ns) {n:Int} (h0:0≤n):∀k∈ax ns n,0≤k∧k<n:=by
 rw [B0];exact ht.ahead n h0
theorem cM {ns:List Nd} (ht:Tree ns) (n:Nat):wt ns n=1+fV ns (ax ns (n:Int)):=by
 rw [LK ht.ahead,B0];rfl
theorem ic {ns:List Nd} (ht:Tree ns) {n:Nat} (hn:n<ns.length):∃x,ns[n]?=some x∧aq ns (n:Int)=x.kind∧ax ns (n:Int)=x.kids∧RZ ns n x:=by
 refine⟨ns[n],List.getElem?_eq_getElem hn,aL (List.getElem?_eq_getElem hn), ?_,ht.pre n _ hn (List.getElem?_eq_getElem hn)⟩;unfold ax;rw [Int.toNat_natCast,List.getElem?_eq_getElem hn]
theorem eC {ns:List Nd} (ht:Tree ns) {n:Nat} (hn:n<ns.length) {k:Int} (hk:aq ns (n:Int)=k) (hc:k=4∨k=6∨k=9∨k=22):2≤(ax ns (n:Int)).length:=by
 obtain⟨x,hx,h1,h2,hv⟩:=ic ht hn;have hf:=hv.fits;have hl:(cR ns x.kids).length=x.kids.length:=by simp [cR]
 rw [h2,←hl];rw [h1] at hk;rw [hk] at hf;rcases hc with h|h|h|h
 all_goals
  rw [h] at hf;have:=uh hf aj;exact Nat.le_trans aj this
theorem tI {ns:List Nd} (ht:Tree ns) {n:Nat} (hn:n<ns.length) (hk:aq ns (n:Int)=5):1≤(ax ns (n:Int)).length:=by
 exact R6
theorem aZ {l:List Int} {i:Nat} (h:i<l.length):l.getD i 0=l[i]:=by rw [List.getD_eq_getElem?_getD,List.getElem?_eq_getElem h];rfl
theorem NA {ns:List Nd} (ht:Tree ns) {node:Int→Int→Bool→Fs→Fs} {n:Nat} (hn:n<ns.length) (h2:2≤(ax ns (n:Int)).length) {s:Fs} (h:cN ns.length s) (up:Int)
  (hN:∀(q:Int) (fn:Int) (loop:Bool) (s:Fs),cN ns.length s→0≤q→q<n→fI ns.length (wt ns q.toNat) s (node q fn loop s)):fI ns.length (wt ns n) s (j9 ns node n up s):=by
 unfold j9;simp only;have hk:=bH ht (n:=(n:Int)) af;have fS:=cM ht n;generalize ax ns (n:Int)=kids at*;have g1:=n7 h (n:Int) up;have g2:=lU ns (s.funcs.length:Int) (kids.take (kids.length - 2)) [] g1.inv (fun q hq=>by have:=hk q (List.mem_of_mem_take hq);omega);have hl:kids.length - 1<kids.length:=af;have hq:=hk _ (List.getElem_mem hl);have g3:=hN (kids.getD (kids.length - 1) 0) s.funcs.length false _ g2.inv (by rw [aZ hl];exact hq.1) (by rw [aZ hl];exact hq.2);refine(F3 ((g1.trans g2).trans g3)).le ?_;have e1:=eB (ns:=ns) kids (kids.length - 1) hl;have e2:=gq ht.ahead (kids.take (kids.length - 2));have e3:fV ns (kids.take (kids.length - 2))≤fV ns (kids.take (kids.length - 1)):=by
  have:kids.take (kids.length - 2)=(kids.take (kids.length - 1)).take (kids.length - 2):=by rw [List.take_take,Nat.min_eq_left af]
  rw [this];have:=CM ns ((kids.take (kids.length - 1)).take (kids.length - 2)) ((kids.take (kids.length - 1)).drop (kids.length - 2));rw [List.take_append_drop] at this;omega
 rw [aZ hl];omega
theorem eI {ns:List Nd} (ht:Tree ns):∀(k n:Nat) (fn:Int) (loop:Bool) (s:Fs),n<k→n<ns.length→cN ns.length s→fI ns.length (wt ns n) s (aA ns k n fn loop s)
 |0,n,_,_,_,h,_,_=>absurd h af
 |k+1,n,fn,loop,s,kU,hn,h=>by
  have ih:∀(q:Int) (fn:Int) (loop:Bool) (s:Fs),cN ns.length s→0≤q→q<n→fI ns.length (wt ns q.toNat) s (aA ns k q fn loop s):=fun q fn loop s hs h0 h1=>by
   obtain⟨m,rfl⟩:∃m:Nat,q=m:=⟨q.toNat,by omega⟩;have:=eI ht k m fn loop s af af hs;simpa using this
  have hk:=bH ht (n:=(n:Int)) af;have fS:=cM ht n;unfold aA;split
  ·exact fI.refl h _
  simp only;split
  ·exact tJ h ns n fn false _
  split
  ·split
   ·exact fI.refl h _
   ·exact vr h _ _ _
  split
  ·rename_i agy;exact NA ht hn (eC ht hn agy ak) h fn ih
  split
  ·rename_i hk4;have h2:=eC ht hn hk4 ak;generalize ax ns (n:Int)=kids at*;have rY:1<kids.length:=af;have hq:=hk _ (List.getElem_mem rY);have e1:=eB (ns:=ns) kids 1 rY;rw [aZ rY];have g1:=ih _ fn loop s h hq.1 hq.2;split
   ·exact(g1.trans (jI g1.inv ns n fn af)).le af
   ·exact g1.le af
  split
  ·rename_i hk5;have h2:=tI ht hn hk5;generalize ax ns (n:Int)=kids at*;have rY:0<kids.length:=af;have hq:=hk _ (List.getElem_mem rY);have e1:=eB (ns:=ns) kids 0 rY;rw [aZ rY];have g1:=jI h ns n fn af;exact(g1.trans (ih _ fn loop _ g1.inv hq.1 hq.2)).le af
  split
  ·rename_i hk6;have h2:=eC ht hn hk6 ak;generalize ax ns (n:Int)=kids at*;have rY:1<kids.length:=af;have h0l:0<kids.length:=af;have hq:=hk _ (List.getElem_mem rY);have yz:=hk _ (List.getElem_mem h0l);have e1:=eB (ns:=ns) kids 1 rY;have e0:=eB (ns:=ns) (kids.take 1) 0 pW;rw [List.getElem_take] at e0;rw [aZ rY,aZ h0l];have g0:fI ns.length (wt ns (kids[0]).toNat) s (if aq ns kids[0]=17 then jq ns s kids[0] fn true else aA ns k kids[0] fn loop s):=by
    split
    ·exact tJ h ns _ fn true _
    ·exact ih _ fn loop s h yz.1 yz.2
   exact(g0.trans (ih _ fn loop _ g0.inv hq.1 hq.2)).le af
  split
  ·rename_i hk9;have h2:=eC ht hn hk9 ak;generalize ax ns (n:Int)=kids at*;have rY:1<kids.length:=af;have h0l:0<kids.length:=af;have hq:=hk _ (List.getElem_mem rY);have yz:=hk _ (List.getElem_mem h0l);have e1:=eB (ns:=ns) kids 1 rY;have e0:=eB (ns:=ns) (kids.take 1) 0 pW;rw [List.getElem_take] at e0;rw [aZ rY,aZ h0l];have g0:=ih _ fn loop s h yz.1 yz.2;exact(g0.trans (ih _ fn true _ g0.inv hq.1 hq.2)).le af
  ·generalize ax ns (n:Int)=kids at*;have g:∀(l:List Int),(∀q∈l,0≤q∧q<(n:Int))→∀{s:Fs},cN ns.length s→fI ns.length (fV ns l) s (l.foldl (fun s q=>aA ns k q fn loop s) s):=by
    intro l
    induction l with
    |nil=>intro _ s hs;exact fI.refl hs _
    |cons q l ihl=>
     intro hl s hs;rw [List.foldl_cons];have h1:=ih q fn loop s hs (hl q ak).1 (hl q ak).2;exact(h1.trans (ihl (fun r hr=>hl r (by simp [hr])) h1.inv)).le (by simp [fV])
   have g1:=g kids hk h;split
   ·exact(F3 g1).le af
   ·exact g1.le af
end Go.Proofs.YtjchnliaglecoaaGreatDoor
