/- A part of the proof. Conditions: none. -/
import Derived.RangeFuncWrites
import Derived.RangeFuncBox
import Derived.Maps.OwnIn
import Derived.Test.YtbgjanmheagilaaGreatDoorZz
import Derived.Test.YtbgjanmheagilaaGreatDoorEcX
import Derived.Test.YtbgjanmheagilaaGreatDoorRn
import Derived.Test.YtbgjanmheagilaaGreatDoorCgX
import Derived.Maps.Views
set_option linter.unusedVariables false
set_option linter.unusedSimpArgs false
set_option maxRecDepth 100000
set_option maxHeartbeats 8000000
namespace Go.Proofs.YtbgjanmheagilaaGreatDoor
open Go Go.RowKit Go.Nodes Go.WideMaps Go.Maps
attribute [local go_sem] Oper.semAt_some
theorem A7 (w:World) (p:Option Addr) (c L:Nat):
  Calls Tryz.prog 28 #[.slice p L c] w fun e w'=>e=.returned (.func (.func 59) #[] #[.pointer (some ⟨w.heap.size,0,none⟩)])∧w'=w.alloc (.cells #[.slice p L c] 22):=by
 go_enter Tryz.func28,Tryz.ntmps28;go_wp2;go_ret;exact⟨rfl,rfl⟩
def Ke (b Mb:Nat) (A B:World):Prop:=Below b A B∧jH Mb A B
theorem abB {b Mb:Nat} {A B C:World} (h:Ke b Mb A B) (k:Ke b Mb B C):Ke b Mb A C:=⟨h.1.trans k.1,h.2.trans k.2⟩
theorem P2 (b Mb:Nat) (A:World):Ke b Mb A A:=⟨Below.refl _ _,⟨fun _ _ _ _ _ h=>h,fun _ _ _ _ h=>h⟩⟩
def Kc (b:Nat) (A B:World):Prop:=Below b A B∧∀(k:Nat) (cs:Array Value) (t:Nat),t≠53→t≠30→A.heap[k]?=some (.cells cs t (0,0))→B.heap[k]?=some (.cells cs t (0,0))
theorem Ke.kc {b Mb:Nat} {A B:World} (h:Ke b Mb A B):Kc b A B:=⟨h.1,h.2.cells⟩
theorem abx {b:Nat} {A B C:World} (h:Kc b A B) (k:Kc b B C):Kc b A C:=⟨h.1.trans k.1,fun n cs t t1 t2 h1=>k.2 n cs t t1 t2 (h.2 n cs t t1 t2 h1)⟩
theorem aby {b:Nat} {w:World} (hn:b≤w.heap.size) (W:World) (l:Nat) (o o':Obj) (hl:w.heap.size≤l) (h:W.heap[l]?=some o) (h1:o.isCells=false) (h2:o.isWalk=false):Kc b W (W.putObj l o'):=
 ⟨belowK_b hn W l o o' hl h h1 h2,fun k cs t _ _ hk=>(World.putObj_heap_other (by intro e;subst e;rw [h] at hk;cases hk;cases h1)).trans hk⟩
theorem Ke.from {b Mb B:Nat} {A C:World} (h:Ke b Mb A C) (hB:Mb<B):KeepsFrom B A C:=⟨h.1.size,fun k o hk h1 h2=>h.2.Kh k o aa h2 h1⟩
def acQ (ns:List Nd) (ys:List (Int × Bool)):Prop:=ys.length=ns.length∧∀(i:Nat) (h:i<ys.length),ys[i].1=(i:Int)∧(ys[i].2=true→aq (ag ns (i:Int))=true)
def og (ns:List Nd):Type:={x:Int × Bool // 0≤x.1∧x.1<(ns.length:Int)∧(x.2=true→aq (ag ns x.1)=true)}
def vals {ns:List Nd} (ys:List (og ns)):List (Int × Bool):=ys.map (·.1)
theorem qE {ns:List Nd} (l:List (og ns)) (x:og ns):vals (l++[x])=vals l++[x.1]:=List.map_append ..
theorem DK (n Bl:Nat) (ns:List Nd) (p:Option Addr) (c:Nat) (w:World) (ha:aj w p ns) (hs:Small ns) (QK:Sound ns) (w1:World) (hB:Below w.heap.size w w1) (Ca:Bl<w1.heap.size) (hBl:w1.cell? ⟨Bl,0,none⟩=some (.slice p ns.length c)):
  SeqStopsK Fence.wide n Tryz.prog 59 #[.pointer (some ⟨Bl,0,none⟩)] (fun x:og ns=>yY x.1) (Kc w.heap.size) (fun ys=>acQ ns (vals ys)) (fun _=>True) ns.length w1:=fun l J Jx W hW hJ _ hY h0=>
 (MD n l Bl (fun pre W=>∃pre':List (og ns),vals pre'=pre∧J pre' W) (fun pre W=>∃pre':List (og ns),vals pre'=pre∧Jx pre' W) (Kc w.heap.size) ns p c w ha hs QK (fun A B b cs _ h=>h.2 b cs 4 ay ay) (fun A B h=>h.1)
  (fun pre x W1 ⟨pre',hp,hj⟩ hlen h1 h2=>by
   have ME:pre'.length<ns.length:=by rw [←hp] at hlen;simpa [vals] using hlen
   have hx:0≤x.1∧x.1<(ns.length:Int)∧(x.2=true→aq (ag ns x.1)=true):=⟨by omega,by omega,h2⟩;obtain⟨fn,tmps,assign,body,hy,hR⟩:=hY pre' ⟨x,hx⟩ W1 hj ME;exact⟨fn,tmps,assign,body,hy,hR.mono fun e W' h=>h.elim (fun⟨e1,j1,k1⟩=>.inl ⟨e1,⟨_,by rw [←hp];exact qE _ _,j1⟩,k1⟩) (fun⟨e1,j1⟩=>.inr ⟨e1,_,by rw [←hp];exact qE _ _,j1⟩)⟩)
  W (hB.trans (hW.mono hB.size)) (fun s X Y row ⟨pre',hp,hj⟩ hg hr=>⟨pre',hp,hJ pre' X Y row hj hg hr⟩) (Nat.lt_of_lt_of_le Ca hW.size) ((hW.cell (p:=⟨Bl,0,none⟩) Ca).trans hBl) ⟨[],rfl,h0⟩).mono
  fun e W' h=>⟨h.1,h.2.elim (fun⟨ys,JU,pre',hp,hj⟩=>.inl ⟨pre',by show acQ ns (vals pre');rw [hp];exact JU,hj⟩) fun⟨pre,pre',_,h⟩=>.inr ⟨pre',trivial,h⟩⟩
theorem tQ {W:World} {B:Nat} {t:TypeId} {v:Value} (h:Boxed W B t v) (g:eo):Boxed (grow W g) B t v:=h.kept (row:=none) ⟨(below_grow W g).os,(below_grow W g).tape,(below_grow W g).output,(below_grow W g).size,fun n hn _=>(below_grow W g).block n hn⟩ ai
theorem FU (W:World):W.grownBy W.drew none:=⟨rfl,rfl,rfl,Nat.le_refl _,fun _ _ _=>rfl⟩
theorem FV {b Mb:Nat} {W W':World} (h:Ke b Mb W.drew W'):Ke b Mb W W':=⟨⟨h.1.os,h.1.tape,h.1.output,h.1.size,h.1.block⟩,⟨h.2.cells,h.2.Kh⟩⟩
theorem tR {W W':World} (h:Below W.heap.size W W'):W.grownBy W' none:=⟨h.os,h.tape,h.output,h.size,fun n hn _=>h.block n hn⟩
theorem tS {Mb:Nat} {W W':World} (hb:Below W.heap.size W W') (h:Mb≤W.heap.size):Ke Mb Mb W W':=
 ⟨hb.mono h,⟨fun b cs t _ _ hh=>(hb.block b (Array.getElem?_eq_some_iff.1 hh).1).trans hh,fun b o _ _ hh=>(hb.block b (Array.getElem?_eq_some_iff.1 hh).1).trans hh⟩⟩
theorem Cb {l n:Nat} {P:Program} {f:FuncId} {args:Array Value} {w:World} {R:Ending→World→Prop} (h:Calls P f args w R):CallsIn (Fence.wide.inRound l) n P f args w R:=callsIn_wide (n:=n).2 h
end Go.Proofs.YtbgjanmheagilaaGreatDoor
/- A part of the proof. Conditions: none. -/
set_option maxRecDepth 100000
set_option maxHeartbeats 8000000
namespace Go.Proofs.YtbgjanmheagilaaGreatDoor
open Go Go.RowKit Go.Nodes Go.WideMaps Go.Maps Go.ChangeShapes
def lK (D:DataW Unit) (k:Int):Int:=match D.atKey (.int .i64 k) (.lit (.int .i64 0)) with
 | .lit (.int _ c)=>c
 |_=>0
theorem yZ {D:DataW Unit} {k c:Int} (h:D.atKey (.int .i64 k) (.lit (.int .i64 0))=.lit (.int .i64 c)):lK D k=c:=by unfold lK;rw [h]
def eK (D:DataW Unit) (l:List Int):List Int:=l.filterMap fun k=>if Maps.has D (.int .i64 k) then some (lK D k) else none
theorem tU (D:DataW Unit) (l:List Int) (k:Int):eK D (l++[k])=eK D l++if Maps.has D (.int .i64 k) then [lK D k] else []:=by
 unfold eK;rw [List.filterMap_append];by_cases h:Maps.has D (.int .i64 k)=true<;>simp [h]
theorem G6 (D:DataW Unit) (l:List Int):(eK D l).length≤l.length:=List.length_filterMap_le _ _
def dZ (x:Nd):List Value:=[.int .i64 x.kind,.string x.text,.slice x.kp x.kids.length x.aC,.int .i64 x.place]
def iF (os:List Nd):List Value:=(os.map dZ).flatten
theorem DN (os:List Nd) (x:Nd):iF (os++[x])=iF os++dZ x:=by simp [iF]
structure nM (B Pb Mb:Nat) (w:World) (os:List Nd) (n:Nat) (D:DataW Unit):Prop where
 box:∃v,w.heap[Pb]?=some (.cells #[.map (some Mb),v] 53 (0,0))∧w.ownsRow B 30 4 v os.length (iF os)
 map:jt w Mb n D
 kids:∀x∈os,Ints B w (.slice x.kp x.kids.length x.aC) x.kids
 pb:B≤Pb
 mb:B≤Mb
theorem G7 {B B':Nat} {w:World} {v:Value} {l:List Int} (h:Ints B w v l) (hB:B'≤B):Ints B' w v l:=
 ⟨h.1,h.2.elim .inl fun⟨g,cap,cur,e,hg,r⟩=>.inr ⟨g,cap,cur,e,Nat.le_trans hB hg,r⟩⟩
theorem iE {B Mb:Nat} {w w':World} {v:Value} {l:List Int} (h:Ints B w v l) (hk:jH Mb w w'):Ints B w' v l:=
 ⟨h.1,h.2.elim .inl fun⟨g,cap,cur,e,hg,hh,r⟩=>.inr ⟨g,cap,cur,e,hg,hk.cells _ _ _ ay ay hh,r⟩⟩
theorem Bd {Mb:Nat} {W W':World} (hb:Below W.heap.size W W'):jH Mb W W':=
 ⟨fun b cs t _ _ hh=>(hb.block b (Array.getElem?_eq_some_iff.1 hh).1).trans hh,fun b o _ _ hh=>(hb.block b (Array.getElem?_eq_some_iff.1 hh).1).trans hh⟩
theorem Kb {B Pb Mb:Nat} {w w6 w7:World} {xs:List Value} {m cn:Nat} {D:DataW Unit} {po:Option Addr} {co gg cap:Nat} {cs:Array Value} {ys:List Value}
  (DO:w6.heap[Pb]?=some (.cells #[.map (some Mb),.slice po m co] 53 (0,0))) (hM6:jt w6 Mb (cn+1) D) (PD:B≤Pb) (PE:B≤Mb)
  (hb6:Below B w w6) (P5:jH Mb w w6) (hO6:w6.ownsRow B 30 4 (.slice po m co) m xs)
  (tV:(w6.alloc (.cells cs 30 (0,0))).drew.grownBy w7 (Value.slice po m co).ownBlock)
  (Kf:w7.ownsRow B 30 4 (.slice (some ⟨gg,0,none⟩) (m+1) cap) (m+1) (xs++ys))
  (hat:(Value.slice po m co).ownBlock=some gg∨gg=w6.heap.size+1):
  (∃v,(w7.setCell ⟨Pb,1,none⟩ (.slice (some ⟨gg,0,none⟩) (m+1) cap)).heap[Pb]?=some (.cells #[.map (some Mb),v] 53 (0,0))∧(w7.setCell ⟨Pb,1,none⟩ (.slice (some ⟨gg,0,none⟩) (m+1) cap)).ownsRow B 30 4 v (m+1) (xs++ys))∧
   jt (w7.setCell ⟨Pb,1,none⟩ (.slice (some ⟨gg,0,none⟩) (m+1) cap)) Mb (cn+1) D∧Below B w (w7.setCell ⟨Pb,1,none⟩ (.slice (some ⟨gg,0,none⟩) (m+1) cap))∧jH Mb w (w7.setCell ⟨Pb,1,none⟩ (.slice (some ⟨gg,0,none⟩) (m+1) cap)):=by
 have hgrow:(w6.alloc (.cells cs 30 (0,0))).grownBy w7 (Value.slice po m co).ownBlock:=⟨tV.os,tV.tape,tV.output,tV.size,tV.block⟩;have hPl:Pb<w6.heap.size:=(Array.getElem?_eq_some_iff.1 DO).1;obtain⟨es,clk,yU,_⟩:=id hM6;have hMl:Mb<w6.heap.size:=(Array.getElem?_eq_some_iff.1 yU).1;have DL:B≤w6.heap.size:=aa;have kind:=Lib.ownsRow_kind hO6;have Kg:(Value.slice po m co).ownBlock≠some Mb:=fun e=>by
  obtain⟨c,fz,hh⟩:=kind _ e;rw [yU] at hh;cases hh
 have Be:(Value.slice po m co).ownBlock≠some Pb:=fun e=>by
  obtain⟨c,fz,hh⟩:=kind _ e;rw [DO] at hh;cases hh
 have abD:∀g,(Value.slice po m co).ownBlock=some g→B≤g:=fun g hg=>by
  rcases hO6.2 with⟨e1,_⟩|⟨g',c',_,e1,hle,_⟩
  ·rw [e1] at hg;cases hg
  ·rw [e1] at hg;cases hg;exact hle
 have hb7:Below B w w7:=Below.grown (hb6.alloc DL _) hgrow aV abD;have hP7:w7.heap[Pb]?=some (.cells #[.map (some Mb),.slice po m co] 53 (0,0)):=by
  rw [hgrow.block Pb aV (fun e=>Be e.symm),Below.heap_alloc _ _ _ hPl];exact DO
 have hgP:gg≠Pb:=by
  rcases hat with h|h
  ·intro e;subst e;exact Be h
  ·omega
 refine⟨⟨_,bY hP7 1 _,ownsRow_setCell_other Kf (by simp [Value.ownBlock];exact hgP) _⟩, ?_,hb7.setCell (p:=⟨Pb,1,none⟩) PD _, ?_⟩
 ·have h7:jt w7 Mb (cn+1) D:=(hM6.alloc _).kept hgrow (fun e=>Kg e.symm);exact h7.setCell (a:=⟨Pb,1,none⟩) (fun e=>by simp at e;subst e;rw [DO] at yU;cases yU) _
 ·refine⟨fun b cs' t t1 t2 h=>?_,fun b o hbM ho h=>?_⟩
  rotate_left
  ·have h6:=P5.Kh b o hbM ho h;have hl6:b<w6.heap.size:=(Array.getElem?_eq_some_iff.1 h6).1;have hbP:b≠Pb:=fun e=>by subst e;rw [DO] at h6;cases h6;cases ho
   rw [Below.heap_setCell _ _ _ _ hbP,hgrow.block b aV (fun e=>by obtain⟨c,fz,hh⟩:=kind _ e.symm;rw [h6] at hh;cases hh;cases ho),Below.heap_alloc _ _ _ hl6];exact h6
  have h6:=P5.cells b cs' t t1 t2 h;have hl6:b<w6.heap.size:=(Array.getElem?_eq_some_iff.1 h6).1;have hbP:b≠Pb:=fun e=>by subst e;rw [DO] at h6;injection h6 with h6;injection h6 with _ h6;exact t1 h6.symm
  rw [Below.heap_setCell _ _ _ _ hbP,hgrow.block b aV (fun e=>by obtain⟨c,fz,hh⟩:=kind _ e.symm;rw [h6] at hh;injection hh with hh;injection hh with _ hh;exact t2 hh),Below.heap_alloc _ _ _ hl6];exact h6
theorem J6 (B Pb Mb:Nat) (os:List Nd) (cn:Nat) (D:DataW Unit) (hm:os.length≤100000) (hN:cn≤100000) (kind:Int) (text:ByteArray) (kp:Option Addr) (aC:Nat) (place:Int) (kids:List Int) (hki:∀k∈kids,i64 k) (Bf:kids.length≤20000)
  (w:World) (ha:bR w kp kids) (key:Int) (hky:i64 key) (hL:nM B Pb Mb w os cn D):
  Calls Tryz.prog 29 #[.pointer (some ⟨Pb,0,none⟩),.int .i64 key,.agg #[.int .i64 kind,.string text,.slice kp kids.length aC,.int .i64 place]] w fun e w'=>e=.returned (.tuple #[])∧
   (∃Xq Xr,nM B Pb Mb w' (os++[⟨kind,text,Xq,Xr,eK D kids,place⟩]) (cn+1) (D.put (.int .i64 key) (.lit (.int .i64 (os.length:Int)))))∧Below B w w'∧jH Mb w w':=by
 obtain⟨⟨ov,hP,hO⟩,hM,P1,PD,PE⟩:=hL;obtain⟨xs,hxs⟩:∃xs,xs=iF os:=⟨_,rfl⟩;obtain⟨m,nc⟩:∃m,m=os.length:=⟨_,rfl⟩;have Hxs:=hid hxs;have Hmm:=hid nc;have HKd:=hid P1;rw [←hxs,←nc] at hO;rw [←nc] at hm ⊢;clear hxs nc P1;have hPl:Pb<w.heap.size:=(Array.getElem?_eq_some_iff.1 hP).1;have HP:=hid hP;have HO:=hid hO;have HM:=hid hM;have Ha:=hid ha;obtain⟨q,hq⟩:∃q,q=kids.length:=⟨_,rfl⟩;rw [←hq] at Bf ⊢;have Dn:(q:Int)≤20000:=aa;have Hq:=hid hq;have Hki:=hid hki;clear hP hO hM ha hq hki;go_enter Tryz.func29,Tryz.ntmps29;go_wp2;go_loopw [6,14] (fun kv iv wr=>∃(j:Nat) (l:List Int),j≤q∧iv=.int .i64 j∧Hid (l=eK D (kids.take j)∧Ints (w.heap.size+1) wr kv l∧Below w.heap.size w wr∧wr.heap[w.heap.size]?=some (.cells #[.int .i64 kind,.string text,.slice kp q aC,.int .i64 place] 30 (0,0)))) (fun _ iv _=>q - (intOf iv).toNat)
 case atStart=>exact⟨0,[],Nat.zero_le _,rfl,hid ⟨by simp [eK],⟨by simp,.inl ⟨rfl,by simp⟩⟩,bA (Below.refl _ _) _,heap_alloc_new _ _⟩⟩
 case round=>
  obtain⟨j,l,hj,rfl,hI⟩:=hrel;have FT:wr.heap[Pb]?=some (.cells #[.map (some Mb),ov] 53 (0,0)):=by rw [hI.out.2.2.1.block Pb hPl];exact HP.out
  have cP0:wr.cell? ⟨Pb,0,none⟩=some (.map (some Mb)):=Ba;have cP1:wr.cell? ⟨Pb,1,none⟩=some ov:=Ba;have hown:jt wr Mb cn D:=HM.out.kept (Bg hI.out.2.2.1) ai;have hX:=hI.out.2.2.2;have hXl:w.heap.size<wr.heap.size:=(Array.getElem?_eq_some_iff.1 hX).1;by_cases Uv:j<q
  ·have hll:l.length≤j:=by have h1:=congrArg List.length hI.out.1;have h2:=G6 D (kids.take j);rw [List.length_take] at h2;omega
   have hjk:j<kids.length:=iJ;have Htk:=hid (show kids.take (j+1)=kids.take j++[kids[j]] by rw [List.take_add_one,List.getElem?_eq_getElem hjk];rfl);rcases Ha.out with ix|⟨bk,ok,rfl,dz,hc⟩
   ·subst ix;simp at hjk
   have ck:=cell_later hI.out.2.2.1 (hc j hjk);have hu:=Hki.out kids[j] (List.getElem_mem hjk);generalize kids[j]=u at*;have j0:(0:Int)≤(j:Int):=aa;have j1:(j:Int)<(q:Int):=aa;have hkey:=keyOf_int_mk (P:=Tryz.prog) (k:=3) Tryz.underlying3 (show(Lit.int .i64 u).wf=true from WalkArith.wf_i64 hu);clear hc;cases hh:Maps.has D (.int .i64 u) with
   |true=>
    go_wp2_with (first
     |(at_lookup;refine wpList_lookup_own_ok_int _ rfl _ _ 51 rfl 3 3 .i64 G1 Tryz.underlying51 Tryz.underlying3 (rP _) Mb cn D rfl hown _ _ rfl hkey ?_;intro c hat hwc;rw [hh])
     |(at_builtin;go_loud (refine fc rfl _ _ rfl (w.heap.size+1) u6 l c wr.heap.size 1 rfl ?DT rfl ?FX ?Ki ?tW ?tX)))
    case DT=>exact cC hI.out.2.1 (bA (Below.refl _ _) _)
    case FX=>simp [go_sem]
    case Ki=>omega
    case tW=>simp;omega
    case tX=>
     intro v' w4 h1 h2 h3;have hrow:∀g,u6.ownBlock=some g→w.heap.size+1≤g:=fun g hg=>hI.out.2.1.2.elim (fun h=>by rw [h.1] at hg;cases hg) fun⟨g',_,_,e,hle,_⟩=>by rw [e] at hg;cases hg;exact hle
     have hb4:Below w.heap.size w w4:=Below.grown (bA hI.out.2.2.1 _) h2 aV fun g hg=>by have:=hrow g hg;omega
     have hX4:w4.heap[w.heap.size]?=some (.cells #[.int .i64 kind,.string text,.slice (some ⟨bk,ok,none⟩) q aC,.int .i64 place] 30 (0,0)):=by
      rw [h2.block w.heap.size aV (fun e=>by have:=hrow _ e.symm;omega),Below.heap_alloc _ _ _ hXl];exact hX
     have HI4:=hid (show l++[c]=eK D (kids.take (j+1))∧Ints (w.heap.size+1) w4 v' (l++[c])∧Below w.heap.size w w4∧w4.heap[w.heap.size]?=some (.cells #[.int .i64 kind,.string text,.slice (some ⟨bk,ok,none⟩) q aC,.int .i64 place] 30 (0,0)) from⟨by rw [Htk.out,tU,hh,if_pos rfl,yZ hat,hI.out.1],h1,hb4,hX4⟩);clear hrow hb4 hX4 h1 h2 h3 FT cP0 cP1 hown hX hXl ck hkey hh hat hwc;go_wp2;go_roundw
     case rel=>exact⟨j+1,l++[c],by omega,by go_num,HI4⟩
     case measure=>simp [intOf];omega
   |false=>
    have Hh:=hid hh;go_wp2_with (at_lookup;refine wpList_lookup_own_ok_int _ rfl _ _ 51 rfl 3 3 .i64 G1 Tryz.underlying51 Tryz.underlying3 (rP _) Mb cn D rfl hown _ _ rfl hkey ?_;intro c hat hwc;rw [hh]);go_roundw
    case rel=>exact⟨j+1,l,by omega,by go_num,hid ⟨by rw [Htk.out,tU,Hh.out];simpa using hI.out.1,hI.out.2⟩⟩
    case measure=>simp [intOf];omega
  ·obtain rfl:j=q:=by omega
   have hll:l=eK D kids:=by rw [hI.out.1,List.take_of_length_le iJ]
   have Hll:=hid hll;have Hints:=hid hI.out.2.1;clear hll;obtain⟨pk,ck,hkv,_⟩:=hI.out.2.1.out;obtain⟨po,co,hov⟩:∃po co,ov=.slice po m co:=by
    rcases HO.out.2 with⟨e1,e2⟩|⟨g,cap,cur,e1,_⟩
    ·exact⟨none,0,by rw [e1,e2]⟩
    ·exact⟨_,_,e1⟩
   obtain⟨lk,hlk⟩:∃n,n=l.length:=⟨_,rfl⟩;rw [←hlk] at hkv;subst hkv hov;have cX2:wr.cell? ⟨w.heap.size,2,none⟩=some (.slice kp j aC):=by simp [World.cell?,hX]
   have fX2:wr.frozen? ⟨w.heap.size,2,none⟩=false:=by simp [World.frozen?,hX]
   have hMl:Mb<w.heap.size:=HM.out.lt;clear cP0 cP1;obtain⟨w5,hw5⟩:∃w5,wr.setCell ⟨w.heap.size,2,none⟩ (.slice pk lk ck)=w5:=⟨_,rfl⟩;have abG:=hw5;have hX5:w5.heap[w.heap.size]?=some (.cells #[.int .i64 kind,.string text,.slice pk lk ck,.int .i64 place] 30 (0,0)):=by
    rw [←hw5];exact bY hX 2 _
   have Xv:Below w.heap.size w w5:=by
    rw [←hw5];exact hI.out.2.2.1.setCell (p:=⟨w.heap.size,2,none⟩) (Nat.le_refl _) _
   have hP5:w5.heap[Pb]?=some (.cells #[.map (some Mb),.slice po m co] 53 (0,0)):=by rw [Xv.block Pb hPl];exact HP.out
   have hM5:jt w5 Mb cn D:=HM.out.kept (Bg Xv) ai;have cP0:w5.cell? ⟨Pb,0,none⟩=some (.map (some Mb)):=by simp [World.cell?,hP5]
   have cP1:w5.cell? ⟨Pb,1,none⟩=some (.slice po m co):=by simp [World.cell?,hP5]
   have hkey:=keyOf_int_mk (P:=Tryz.prog) (k:=3) Tryz.underlying3 (show(Lit.int .i64 key).wf=true from WalkArith.wf_i64 hky);have G8:(Lit.int .i64 (m:Int)).wf=true:=WalkArith.wf_i64 aa;go_wp2;rw [show wr.setCell {block:=w.heap.size,off:=2} (Value.slice pk l.length ck)=w5 from by rw [←hlk];exact hw5];go_still_tail 10,ak;go_wp2_with (at_mapUpdate;refine wpList_mapUpdate_own _ rfl _ _ _ 51 rfl 3 3 G1 Tryz.underlying51 _ Mb cn D rfl hM5.drew kT _ _ _ rfl rfl hkey _ [] (plainElem_int Tryz.underlying3 G8) ?_);intro w6 hM6 Xw;have ajL:w.heap.size≤w5.heap.size:=Xv.size;have hb6:Below B w5 w6:=Below.grown (Below.refl _ _).drew Xw aV (fun k e=>by cases e;exact PE);obtain⟨es,clk,yU,_⟩:=HM.out;have hPM:Pb≠Mb:=fun e=>by subst e;rw [HP.out] at yU;cases yU
   have ajN:w.heap.size<w5.heap.size:=(Array.getElem?_eq_some_iff.1 hX5).1;have DO:w6.heap[Pb]?=some (.cells #[.map (some Mb),.slice po m co] 53 (0,0)):=by rw [Xw.block Pb aV (by simpa using hPM)];exact hP5
   have hX6:w6.heap[w.heap.size]?=some (.cells #[.int .i64 kind,.string text,.slice pk l.length ck,.int .i64 place] 30 (0,0)):=by
    rw [Xw.block w.heap.size aV aV,←hlk];exact hX5
   have afs:∀g,(Value.slice po m co).ownBlock=some g→g<w.heap.size:=fun g hg=>by
    obtain⟨c,fz,hh⟩:=Lib.ownsRow_kind HO.out g hg;exact(Array.getElem?_eq_some_iff.1 hh).1
   have Kg:(Value.slice po m co).ownBlock≠some Mb:=fun e=>by
    obtain⟨c,fz,hh⟩:=Lib.ownsRow_kind HO.out _ e;rw [yU] at hh;cases hh
   have Be:(Value.slice po m co).ownBlock≠some Pb:=fun e=>by
    obtain⟨c,fz,hh⟩:=Lib.ownsRow_kind HO.out _ e;rw [HP.out] at hh;cases hh
   have hO6:w6.ownsRow B 30 4 (.slice po m co) m xs:=(cC HO.out Xv).drew.kept Xw (.inr Kg);have P5:jH Mb w5 w6:=by
    refine⟨fun b cs t t1 t2 h=>?_,fun b o hbM ho h=>?_⟩
    ·have hlt:=(Array.getElem?_eq_some_iff.1 h).1;have abH:w5.heap[Mb]?=some (.map es clk):=by rw [Xv.block Mb hMl];exact yU
     rw [Xw.block b aV (by intro e;simp at e;subst e;rw [h] at abH;cases abH)];exact h
    ·have hlt:=(Array.getElem?_eq_some_iff.1 h).1;rw [Xw.block b aV (by simpa using hbM)];exact h
   have hI5:Ints (w.heap.size+1) w5 (.slice pk lk ck) l:=by rw [←abG];exact ct Hints.out _ aa
   have FY:jH Mb w w5:=Bd Xv;have Uo:Below B w w5:=Xv.mono aa;have HF:=hid (show jH Mb w w5∧Below B w w5∧Ints (w.heap.size+1) w5 (.slice pk lk ck) l from⟨FY,Uo,hI5⟩);clear hI5 FY Uo;have hs6:w5.heap.size≤w6.heap.size:=Xw.size;have cP0:w6.cell? ⟨Pb,0,none⟩=some (.map (some Mb)):=by simp [World.cell?,DO]
   have cP1:w6.cell? ⟨Pb,1,none⟩=some (.slice po m co):=by simp [World.cell?,DO]
   have fP1:w6.frozen? ⟨Pb,1,none⟩=false:=by simp [World.frozen?,DO]
   have hfz:∀cs t,(w6.alloc (.cells cs t (0,0))).drew.frozen? ⟨Pb,1,none⟩=false:=fun cs t=>(Go.RowKit.frozen?_alloc_cells w6 cs t _).trans fP1
   have aft:Pb<w6.heap.size:=(Array.getElem?_eq_some_iff.1 DO).1;have hfc:∀cs t,(w6.alloc (.cells cs t (0,0))).drew.cell? ⟨Pb,1,none⟩=some (.slice po m co):=fun cs t=>(World.cell?_of_block (Below.heap_alloc w6 _ _ aft)).trans cP1
   have cX0:w6.cell? ⟨w.heap.size,0,none⟩=some (.int .i64 kind):=by simp [World.cell?,hX6]
   have cX1:w6.cell? ⟨w.heap.size,1,none⟩=some (.string text):=by simp [World.cell?,hX6]
   have cX2:w6.cell? ⟨w.heap.size,2,none⟩=some (.slice pk l.length ck):=by simp [World.cell?,hX6]
   have cX3:w6.cell? ⟨w.heap.size,3,none⟩=some (.int .i64 place):=by simp [World.cell?,hX6]
   obtain⟨i0,hi0,hz0,hz1,hz2⟩:=info_parts Tryz.abI;clear hw5 abG hP5 hM5 hI hX fX2 FT hown;go_wp2;go_region_law
    ((refine step_append_lies _ (by rfl) _ _ _ (by rfl) B 30 i0 _ 4 56 Tryz.underlying22 hi0 hz0 hz1 hz2 rfl aa (.slice po m co) m xs (by rfl) (by first|exact(hO6.alloc _).drew|exact hO6.drew.alloc _)
       ⟨w6.heap.size,0,none⟩ 1 1 [.int .i64 kind,.string text,.slice pk l.length ck,.int .i64 place] (by rfl) (by rfl) (World.news_of_block (cs:=#[.int .i64 kind,.string text,.slice pk l.length ck,.int .i64 place]) (t:=30) (fr:=(0,0)) (heap_alloc_new _ _)) (by simp [Value.oneCell'])
       aa kT aa aV (w6.heap.size+1) ai ?_;intro gg cap w7 Kf hgrow hat hlt;have c7:w7.cell? ⟨Pb,1,none⟩=some (.slice po m co):=(hgrow.cell_far ⟨Pb,1,none⟩ aV (by simpa using Ne.symm Be)).trans (hfc _ _);have f7:w7.frozen? ⟨Pb,1,none⟩=false:=(hgrow.frozen_far ⟨Pb,1,none⟩ aV (by simpa using Ne.symm Be)).trans (hfz _ _)))
   all_goals
    go_wp2;go_end0;obtain⟨h1,h2,h3,h4⟩:=Kb DO hM6 PD PE hb6 P5 hO6 hgrow Kf hat;obtain⟨f1,f2,f3⟩:=HF.out;have hlen:(os++[(⟨kind,text,pk,ck,eK D kids,place⟩:Nd)]).length=m+1:=by rw [List.length_append,Hmm.out];rfl
    refine⟨rfl,⟨pk,ck,⟨?_,h2,fun x hx=>?_,PD,PE⟩⟩,f2.trans h3,f1.trans h4⟩
    ·obtain⟨v,e1,e2⟩:=h1;refine⟨v,e1, ?_⟩;rw [hlen,DN,←Hxs.out];have e3:dZ (⟨kind,text,pk,ck,eK D kids,place⟩:Nd)=[.int .i64 kind,.string text,.slice pk l.length ck,.int .i64 place]:=by simp [dZ,Hll.out]
     rw [e3];exact e2
    ·rcases List.mem_append.1 hx with hx|hx
     ·exact iE (iE (HKd.out x hx) f1) h4
     ·obtain rfl:=List.mem_singleton.1 hx;have h5:=iE (G7 f3 (B':=B) aa) h4;rw [hlk,Hll.out] at h5;exact h5
end Go.Proofs.YtbgjanmheagilaaGreatDoor
/- A part of the proof. Conditions: none. -/
set_option maxRecDepth 100000
set_option maxHeartbeats 8000000
namespace Go.Proofs.YtbgjanmheagilaaGreatDoor
open Go Go.RowKit Go.Nodes Go.WideMaps Go.Maps Go.ChangeShapes
abbrev Sd:=Int × ByteArray × List Int × Int
def strip (x:Nd):Sd:=(x.kind,x.text,x.kids,x.place)
def xY (ns:List Nd) (A:List Int) (l:List Int):List Int:=(l.filter fun k=>ag ns k !=2).map fun k=>A.getD k.toNat 0
def cB (ns:List Nd):Nat→List Int × List Sd
 |0=>([],[])
 |j+1=>match ns[j]? with
  |none=>cB ns j
  |some x=>if x.kind=36 then((cB ns j).1++[(cB ns j).1.getD (x.kids.getD 0 0).toNat 0],(cB ns j).2)
   else if x.kind=2 then((cB ns j).1++[0],(cB ns j).2)
   else((cB ns j).1++[((cB ns j).2.length:Int)],(cB ns j).2++[(x.kind,x.text,xY ns (cB ns j).1 x.kids,x.place)])
theorem FQ {ns:List Nd} {j:Nat} {x:Nd} (hx:ns[j]?=some x) (h:x.kind=36):cB ns (j+1)=((cB ns j).1++[(cB ns j).1.getD (x.kids.getD 0 0).toNat 0],(cB ns j).2):=by
 rw [cB,hx];simp [h]
theorem DI {ns:List Nd} {j:Nat} {x:Nd} (hx:ns[j]?=some x) (h:x.kind=2):cB ns (j+1)=((cB ns j).1++[0],(cB ns j).2):=by
 rw [cB,hx];simp [h]
theorem uZ {ns:List Nd} {j:Nat} {x:Nd} (hx:ns[j]?=some x) (h:x.kind≠36) (h2:x.kind≠2):
  cB ns (j+1)=((cB ns j).1++[((cB ns j).2.length:Int)],(cB ns j).2++[(x.kind,x.text,xY ns (cB ns j).1 x.kids,x.place)]):=by
 rw [cB,hx];simp [h,h2]
theorem pg (ns:List Nd):∀j,j≤ns.length→(cB ns j).1.length=j
 |0,_=>rfl
 |j+1,h=>by
  have ih:=pg ns j aa;have hx:ns[j]?=some ns[j]:=List.getElem?_eq_getElem aa;by_cases nO:ns[j].kind=36
  ·rw [FQ hx nO];simp [ih]
  ·by_cases h2:ns[j].kind=2
   ·rw [DI hx h2];simp [ih]
   ·rw [uZ hx nO h2];simp [ih]
def ko (ns:List Nd) (j:Nat) (A:List Int) (D:DataW Unit):Prop:=
 IsMap D∧∀k:Nat,(k<j→Maps.has D (.int .i64 (k:Int))=(ag ns (k:Int) !=2)∧lK D (k:Int)=A.getD k 0)∧(j≤k→Maps.has D (.int .i64 (k:Int))=false)
theorem DJ (ns:List Nd):ko ns 0 [] (DataW.map []):=⟨⟨[],rfl⟩,fun k=>⟨fun h=>by omega,fun _=>rfl⟩⟩
theorem yw {D:DataW Unit} {k:Int} (h:Maps.has D (.int .i64 k)=false):lK D k=0:=by unfold lK;rw [atKey_of_not_has h]
theorem nU {D:DataW Unit} {k v:Int} (h:IsMap D):lK (D.put (.int .i64 k) (.lit (.int .i64 v))) k=v:=by unfold lK;rw [atKey_put_same h (show WideAt.IsKeyLit (.int .i64 k) from trivial)]
theorem vD {D:DataW Unit} {k k' v:Int} (h:k'≠k):lK (D.put (.int .i64 k) (.lit (.int .i64 v))) k'=lK D k':=by
 unfold lK;rw [atKey_put_other (fun e=>h (by cases e;rfl))]
theorem yu {D:DataW Unit} (h:IsMap D) (k:Lit) (d:DataW Unit):IsMap (D.put k d):=by
 obtain⟨es,rfl⟩:=h;exact⟨_,rfl⟩
theorem vE (A:List Int) (x:Int) {k:Nat} (h:k<A.length):(A++[x]).getD k 0=A.getD k 0:=by
 simp [List.getD,List.getElem?_append_left h]
theorem qp (A:List Int) (x:Int):(A++[x]).getD A.length 0=x:=by simp [List.getD]
theorem tO {ns:List Nd} {j:Nat} {A:List Int} {D:DataW Unit} (h:ko ns j A D) (hA:A.length=j) (v:Int) (hk:ag ns (j:Int)≠2):ko ns (j+1) (A++[v]) (D.put (.int .i64 (j:Int)) (.lit (.int .i64 v))):=by
 refine⟨yu h.1 _ _,fun k=>⟨fun hkj=>?_,fun hkj=>?_⟩⟩
 ·by_cases e:k=j
  ·subst e;refine⟨?_, ?_⟩
   ·rw [has_put_same h.1 (show WideAt.IsKeyLit (.int .i64 (k:Int)) from trivial)];simp [hk]
   ·rw [nU h.1,←hA,qp]
  ·exact WC
 ·exact NQ
theorem A3 {ns:List Nd} {j:Nat} {A:List Int} {D:DataW Unit} (h:ko ns j A D) (hA:A.length=j) (hk:ag ns (j:Int)=2):ko ns (j+1) (A++[0]) D:=by
 refine⟨h.1,fun k=>⟨fun hkj=>?_,fun hkj=>(h.2 k).2 aa⟩⟩;by_cases e:k=j
 ·subst e;have h1:=(h.2 k).2 (Nat.le_refl _);refine⟨by rw [h1,hk];rfl, ?_⟩;rw [yw h1,←hA,qp]
 ·have h1:=(h.2 k).1 aa;exact⟨h1.1,by rw [vE _ _ aa];exact h1.2⟩
theorem CB {ns:List Nd} {j:Nat} {A:List Int} {D:DataW Unit} (h:ko ns j A D):∀(l:List Int),(∀k∈l,0≤k∧k<(j:Int))→eK D l=xY ns A l
 |[],_=>rfl
 |k::l,hl=>by
  obtain⟨h0,h1⟩:=hl k ai;obtain⟨z,rfl⟩:∃z:Nat,k=(z:Int):=⟨k.toNat,by omega⟩;obtain⟨e1,e2⟩:=(h.2 z).1 aa;have ih:=CB h l (fun k hk=>hl k (by simp [hk]));unfold eK at ih ⊢;unfold xY at ih ⊢;rw [List.filterMap_cons,List.filter_cons,e1,ih,e2];by_cases hk:(ag ns (z:Int) !=2)=true
  ·simp [hk]
  ·simp [hk]
end Go.Proofs.YtbgjanmheagilaaGreatDoor