/- A part of the proof. Conditions: none. -/
import Derived.Test.YtjchnliaglecoaaGreatDoorZz
import Derived.Test.YtjchnliaglecoaaGreatDoorFeX
import Derived.Test.YtjchnliaglecoaaGreatDoorCgX
import Derived.Test.YtjchnliaglecoaaGreatDoorFpX
import Derived.Maps.OwnOps
import Derived.Maps.OwnSet
import Derived.Maps.Views
import Derived.Test.YtjchnliaglecoaaGreatDoorMpX
import Derived.Test.YtjchnliaglecoaaGreatDoorMoX
import Derived.StillTailTactics
set_option linter.unusedVariables false
set_option linter.unusedSimpArgs false
set_option maxRecDepth 100000
set_option maxHeartbeats 8000000
namespace Go.Proofs.YtjchnliaglecoaaGreatDoor
open Go Go.RowKit Go.Nodes
theorem G4 (ns:List Nd) (v:List Bool):∀(l:List Nd) (n:Nat) (us:List Bool),ns.drop n=l→oY ns n→fh ns l n us=(none,v)→oY ns ns.length
 |[],n,us,hd,hv,_=>by
  have:ns.length≤n:=by simpa using hd
  intro i x hi hx;exact hv i x af hx
 |x::l,n,us,hd,hv,h=>by
  have hn:n<ns.length:=by
   rcases Nat.lt_or_ge n ns.length with h|h
   ·exact h
   ·rw [List.drop_eq_nil_of_le h] at hd;cases hd
  have xy:=List.drop_eq_getElem_cons hn;rw [hd] at xy;obtain⟨h1,h2⟩:=List.cons.inj xy;cases hk:eF n x.kids us with
  |none=>unfold fh at h;simp only [hk] at h;cases h
  |some cU=>
   cases ho:okB ns x with
   |false=>rw [yK hk ho] at h;cases h
   |true=>
    rw [Di hk ho] at h;refine G4 ns v l (n+1) cU h2.symm (fun i y hi hy=>?_) h;by_cases AJ:i<n
    ·exact hv i y AJ hy
    ·obtain rfl:i=n:=by omega
     rw [List.getElem?_eq_getElem hn,←h1] at hy;cases hy;exact wL hk ho
theorem zR {ns:List Nd} (h:(bg ns).2=0):oY ns ns.length∧aq ns ((ns.length - 1:Nat):Int)=1:=by
 have ht:=taken h;unfold bg at h;split at h
 ·exact absurd h (show ¬((60:Int)=0) by decide)
 ·rename_i u hs;refine⟨G4 ns u ns 0 _ rfl (fun i x hi=>absurd hi af) hs, ?_⟩;split at h
  ·exact absurd h (show ¬((60:Int)=0) by decide)
  split at h
  ·rename_i hr;unfold p7 at hr;have h1:=List.all_eq_true.1 hr (ns.length - 1) (by rw [List.mem_range];omega);simp only [Bool.and_eq_true,decide_eq_true_eq] at h1;exact h1.1.2 af
  ·exact absurd h (show ¬((60:Int)=0) by decide)
theorem ow {ns:List Nd} (h:(bg ns).2=0):Tree ns:=⟨(taken h).1,(zR h).1⟩
theorem uz {ns:List Nd} (h:(bg ns).2=0):1≤(ax ns ((ns.length - 1:Nat):Int)).length:=by
 obtain⟨hv,hk⟩:=zR h;have h0:=(taken h).2.1;obtain⟨x,hx,h1,h2,hv⟩:=ic (ow h) (n:=ns.length - 1) af;exact afb
def sZ (j:Nat):Fs:=⟨[],List.replicate j (-1),[],[],[],[],0,0⟩
def sO:Fs:=⟨[],[],[],[],[],[],0,0⟩
def cy (ns:List Nd):Fs × Int × Int:=
 if(bg ns).2≠0 then(sO,(bg ns).1,(bg ns).2)
 else if(cB ns).e≠0 then(sO,(cB ns).bE,(cB ns).e) else(cB ns,0,0)
structure gR (B:Nat) (w:World) (s:Fs) (v0 v1 v2 v3:Value):Prop where
 vars:w.ownsRow B 114 4 v0 s.vars.length (cx s.vars)
 uses:Ints B w v1 s.uses
 funcs:Ints B w v2 s.funcs
 cF:Ints B w v3 s.cF
theorem nK {B B':Nat} {w:World} {e:TypeId} {size:Nat} {v:Value} {n:Nat} {xs:List Value} (h:w.ownsRow B e size v n xs) (hb:B'≤B):w.ownsRow B' e size v n xs:=by
 obtain⟨h1,h2⟩:=h;refine⟨h1, ?_⟩;rcases h2 with h2|⟨g,cap,cur,hv,hg,hh⟩
 ·exact .inl h2
 ·exact .inr ⟨g,cap,cur,hv,Nat.le_trans hb hg,hh⟩
theorem gR.mono {B B':Nat} {w:World} {s:Fs} {v0 v1 v2 v3:Value} (h:gR B w s v0 v1 v2 v3) (hb:B'≤B):gR B' w s v0 v1 v2 v3:=⟨nK h.vars hb,nK h.uses hb,nK h.funcs hb,nK h.cF hb⟩
theorem gR.set {B R:Nat} {w:World} {s:Fs} {v0 v1 v2 v3:Value} (h:gR B w s v0 v1 v2 v3) (hR:R<B) (i:Nat) (x:Value):gR B (w.setCell ⟨R,i,none⟩ x) s v0 v1 v2 v3:=
 ⟨h.vars.kept (dY w R i x) (.inr fun e=>by have:=(h.vars.lt R e).1;omega),eL h.uses _ af,eL h.funcs _ af,eL h.cF _ af⟩
theorem eN {w:World} {g i:Nat} {cs:Array Value} {t:TypeId} {v:Value} (h:w.heap[g]?=some (.cells cs t (0,0))) (hv:cs[i]?=some v):w.setCell ⟨g,i,none⟩ v=w:=by
 obtain⟨hg,he⟩:=Array.getElem?_eq_some_iff.1 h;obtain⟨hi,kO⟩:=Array.getElem?_eq_some_iff.1 hv;have e:(w.setCell ⟨g,i,none⟩ v).heap=w.heap:=by
  apply Array.ext_getElem?;intro k;by_cases hk:k=g
  ·subst hk;rw [cq h i v,h];congr 2;apply Array.ext_getElem?;intro j;rw [Array.getElem?_setIfInBounds];by_cases hj:i=j
   ·subst hj;simp [hi,kO]
   ·simp [hj]
  ·exact Below.heap_setCell _ _ _ _ (by simpa using hk)
 have e2:({w with heap:=(w.setCell ⟨g,i,none⟩ v).heap}:World)=w.setCell ⟨g,i,none⟩ v:=rfl;rw [←e2,e]
theorem mo (B:Nat) (w:World):gR B w sO (.slice none 0 0) (.slice none 0 0) (.slice none 0 0) (.slice none 0 0):=
 ⟨⟨rfl,.inl ⟨rfl,rfl⟩⟩,⟨rfl,.inl ⟨rfl,rfl⟩⟩,⟨rfl,.inl ⟨rfl,rfl⟩⟩,⟨rfl,.inl ⟨rfl,rfl⟩⟩⟩
theorem iW {fn:Func} {q u x:Tmp} {ty:TypeId} (h:fn.results=#[.cell q ty,.tmp u,.tmp x]) (tmps:Array Value) (P:Program) (w:World):
  (results fn tmps).run P w=
   ((asAddr (tmps.getD q undef)).run P w).andThen fun a w₁=>((loadVar ty a).run P w₁).andThen fun v w₂=>.ok (.tuple #[v,tmps.getD u undef,tmps.getD x undef]) w₂:=by
 simp only [results,h];simp [Sem.run_bind,Result.andThen]
def iO (ns:List Nd) (w:World) (e:Ending) (w':World):Prop:=∃v0 v1 v2 v3,e=.returned (.tuple #[.agg #[v0,v1,v2,v3],.int .i64 (cy ns).2.1,.int .i64 (cy ns).2.2])∧Below w.heap.size w w'∧gR w.heap.size w' (cy ns).1 v0 v1 v2 v3
theorem zW {B g:Nat} {w:World} {x:Int} (h:w.heap[g]?=some (.cells #[.int .i64 x] 3 (0,0))) (hg:B≤g):Ints B w (.slice (some ⟨g,0,none⟩) 1 1) [x]:=
 ⟨rfl,.inr ⟨g,1,#[.int .i64 x],rfl,hg,h,Nat.le_refl _,by decide,rfl,rfl⟩⟩
theorem KX {B:Nat} {w w3:World} {v1 v2 v3 v4 v5:Value} {u:List Int} {x y z:Int} (h:gh B w [v1,v2,v3,v4,v5] [u,[],[],[],[]]) (hb:Below w.heap.size w w3) (hB:B≤w.heap.size)
  (h1:w3.heap[w.heap.size]?=some (.cells #[.int .i64 x] 3 (0,0))) (h2:w3.heap[w.heap.size+1]?=some (.cells #[.int .i64 y] 3 (0,0))) (h3:w3.heap[w.heap.size+2]?=some (.cells #[.int .i64 z] 3 (0,0))):
  gh B w3 [v1,.slice (some ⟨w.heap.size,0,none⟩) 1 1,.slice (some ⟨w.heap.size+1,0,none⟩) 1 1,v4,.slice (some ⟨w.heap.size+2,0,none⟩) 1 1] [u,[x],[y],[],[z]]:=by
 have wN:∀g,v1.ownBlock=some g→g<w.heap.size:=fun g e=>((h.rows 0 _ _ rfl rfl).lt g e).2
 have hl4:∀g,v4.ownBlock=some g→g<w.heap.size:=fun g e=>((h.rows 3 _ _ rfl rfl).lt g e).2
 have ap:=h.apart 0 3 v1 v4 aj rfl rfl;refine⟨rfl,fun i v l a b=>?_,fun i j v q Xk a b g e e2=>?_⟩
 ·rcases i with _|_|_|_|_|i
  ·cases a;cases b;exact bR (h.rows 0 _ _ rfl rfl) hb
  ·cases a;cases b;exact zW h1 hB
  ·cases a;cases b;exact zW h2 af
  ·cases a;cases b;exact bR (h.rows 3 _ _ rfl rfl) hb
  ·cases a;cases b;exact zW h3 af
  ·simp at a
 ·have fresh:∀k,(Value.slice (some ⟨k,0,none⟩) 1 1).ownBlock=some k:=fun _=>rfl
  rcases i with _|_|_|_|_|i<;>rcases j with _|_|_|_|_|j<;>first
   |exact Xk rfl
   |(simp at a;done)
   |(simp at b;done)
   |(cases a;cases b;rw [fresh] at e e2;injection e with e;injection e2 with e2;omega)
   |(cases a;cases b;rw [fresh] at e2;injection e2 with e2;have:=wN g e;omega)
   |(cases a;cases b;rw [fresh] at e2;injection e2 with e2;have:=hl4 g e;omega)
   |(cases a;cases b;rw [fresh] at e;injection e with e;have:=wN g e2;omega)
   |(cases a;cases b;rw [fresh] at e;injection e with e;have:=hl4 g e2;omega)
   |(cases a;cases b;exact ap g e e2)
   |(cases a;cases b;exact ap g e2 e)
def iX (k:Nat):Fs:=⟨[],List.replicate k (-1),[-1],[-1],[],[0],0,0⟩
def mP (w:World) (FB:Nat):World:=((((((w.setCell ⟨FB,3,none⟩ (.slice (some ⟨w.heap.size,0,none⟩) 1 1)).setCell ⟨FB,4,none⟩ (.slice (some ⟨w.heap.size+1,0,none⟩) 1 1)).setCell ⟨FB,6,none⟩ (.slice (some ⟨w.heap.size+1+1,0,none⟩) 1 1)).alloc (.cells #[.int .i64 (-1)] 3)).alloc (.cells #[.int .i64 (-1)] 3)).alloc (.cells #[.int .i64 0] 3))
theorem OD (w:World) (FB:Nat) (h:FB<w.heap.size):mP w FB=((((((w.alloc (.cells #[.int .i64 (-1)] 3)).alloc (.cells #[.int .i64 (-1)] 3)).alloc (.cells #[.int .i64 0] 3)).setCell ⟨FB,3,none⟩ (.slice (some ⟨w.heap.size,0,none⟩) 1 1)).setCell ⟨FB,4,none⟩ (.slice (some ⟨w.heap.size+1,0,none⟩) 1 1)).setCell ⟨FB,6,none⟩ (.slice (some ⟨w.heap.size+2,0,none⟩) 1 1)):=by
 unfold mP;have h1:FB<w.heap.size+1:=af;have h2:FB<w.heap.size+1+1:=af;simp [go_sem,h,h1,h2]
theorem Ex (w:World) (FB:Nat) (h:FB<w.heap.size):Below FB w (mP w FB):=by
 unfold mP;exact((((((Below.refl FB w).setCell (p:=⟨FB,3,none⟩) (Nat.le_refl _) _).setCell (p:=⟨FB,4,none⟩) (Nat.le_refl _) _).setCell (p:=⟨FB,6,none⟩) (Nat.le_refl _) _).alloc bt _).alloc bt _).alloc bt _
theorem G5 (w:World) (FB:Nat) (h:FB<w.heap.size):eo FB w (mP w FB):=by
 unfold mP;exact((((((ew 3 _).trans (ew 4 _)).trans (ew 6 _)).trans (dH (au _ _))).trans (dH (au _ _))).trans (dH (au _ _)))
theorem cC.start {FB c L k:Nat} {p:Option Addr} {w:World} {v0 v1 v2 v3 v4 v5:Value} (h:cC FB p c L w (sZ k) v0 v1 v2 v3 v4 v5):
  cC FB p c L (mP w FB) (iX k) v0 v1 (.slice (some ⟨w.heap.size,0,none⟩) 1 1) (.slice (some ⟨w.heap.size+1,0,none⟩) 1 1) v4 (.slice (some ⟨w.heap.size+2,0,none⟩) 1 1):=by
 rw [OD w FB h.lt];obtain⟨w3,hw3⟩:∃w3,w3=((w.alloc (.cells #[.int .i64 (-1)] 3)).alloc (.cells #[.int .i64 (-1)] 3)).alloc (.cells #[.int .i64 0] 3):=⟨_,rfl⟩;rw [←hw3];have hb:Below w.heap.size w w3:=by rw [hw3];exact(((au w _).alloc ak _).alloc bt _)
 have hl:=h.lt;have h2:=KX (w3:=w3) (x:=-1) (y:=-1) (z:=0) h.rows hb af
  (by rw [hw3];exact((au _ _).block _ bt).trans (((au _ _).block _ ak).trans (heap_alloc_new _ _)))
  (by rw [hw3];exact((au _ _).block _ ak).trans (by have:=heap_alloc_new (w.alloc (.cells #[.int .i64 (-1)] 3)) (.cells #[.int .i64 (-1)] 3);simpa using this))
  (by rw [hw3];have:=heap_alloc_new ((w.alloc (.cells #[.int .i64 (-1)] 3)).alloc (.cells #[.int .i64 (-1)] 3)) (.cells #[.int .i64 0] 3);simpa using this)
 have h1:w3.heap[FB]?=some (.cells #[.slice p L c,v0,v1,v2,v3,v4,v5,.int .i64 0,.int .i64 0] 63 (0,0)):=by rw [hb.block _ hl];exact h.heap
 have h3:w3.ownsRow (FB+1) 114 4 v0 0 []:=bR h.vars hb;have k1:=cq h1 3 (.slice (some ⟨w.heap.size,0,none⟩) 1 1);have k2:=cq k1 4 (.slice (some ⟨w.heap.size+1,0,none⟩) 1 1);have k3:=cq k2 6 (.slice (some ⟨w.heap.size+2,0,none⟩) 1 1);have m1:=h3.kept (dY w3 FB 3 (.slice (some ⟨w.heap.size,0,none⟩) 1 1)) (.inr (iL h3 h1 aj));have m2:=m1.kept (dY _ FB 4 (.slice (some ⟨w.heap.size+1,0,none⟩) 1 1)) (.inr (iL m1 k1 aj));have m3:=m2.kept (dY _ FB 6 (.slice (some ⟨w.heap.size+2,0,none⟩) 1 1)) (.inr (iL m2 k2 aj));exact⟨by rw [k3];rfl,kQ (kQ (kQ h2 3 _) 4 _) 6 _,m3⟩
theorem G6 (w:World) (p:Option Addr) (c:Nat) (ns:List Nd) (hs:Small ns) (hc:gS ns) (ha:ay w p ns) (hl0:bZ w) (he:(bg ns).2≠0):
  Calls Tryz.prog 10 #[.slice p ns.length c] w (iO ns w):=by
 have hch:∀W,Below w.heap.size w W→Calls Tryz.prog 27 #[.slice p ns.length c] W fun e w'=>e=.returned (.tuple #[.int .i64 (bg ns).1,.int .i64 (bg ns).2])∧Below W.heap.size W w':=fun W hW=>yL W p c ns hs hc (aF hW ha) (bZ.later hl0 hW)
 have ZE:=hid hch;have hout:cy ns=(sO,(bg ns).1,(bg ns).2):=by unfold cy;rw [if_pos he]
 unfold iO;rw [hout];clear hch hs hc ha hl0 hout;generalize (bg ns).1=a at*;generalize (bg ns).2=b at*;generalize ns.length=L at*;go_enter Tryz.func10,Tryz.ntmps10;go_wp2_with (go_at_call 27;((with_reducible refine(ZE.out _ p6).mono ?_));rintro e w' ⟨rfl,hb⟩;obtain⟨g,rfl⟩:=aC hb;clear hb);refine bodyPost_ret (v:=.tuple #[.agg #[.slice none 0 0,.slice none 0 0,.slice none 0 0,.slice none 0 0],.int .i64 a,.int .i64 b]) (by rw [iW rfl];simp [go_sem]) rfl ?_;exact⟨_,_,_,_,rfl,eK,mo _ _⟩
def ajF (FB:Nat) (A E:Int):Nat→World→Value→Prop
 |0,w,v=>v=.agg #[.slice none 0 0,.slice none 0 0,.slice none 0 0,.slice none 0 0]
 |1,w,v=>v=.pointer (some ⟨FB,0,none⟩)
 |2,w,v=>v=.pointer (some ⟨FB,0,none⟩)
 |3,w,v=>v=.pointer (some ⟨FB,7,none⟩)
 |4,w,v=>v=.int .i64 A
 |5,w,v=>v=.pointer (some ⟨FB,0,none⟩)
 |6,w,v=>v=.pointer (some ⟨FB,0,none⟩)
 |7,w,v=>v=.pointer (some ⟨FB,8,none⟩)
 |8,w,v=>v=.int .i64 E
 |9,w,v=>True
 |10,w,v=>v=.int .i64 A
 |_,w,v=>v=.int .i64 E
theorem OE {FB:Nat} {A E:Int}:∀(i j:Nat) (w w':World) (v:Value),i≠j→(fun _ _=>false:Nat→Nat→Bool) i j=false→(fun _ w w'=>w'=w:Nat→World→World→Prop) i w w'→ajF FB A E j w v→ajF FB A E j w' v:=by
 intro i j w w' v _ _ hS h;have:w'=w:=hS;subst this;exact h
theorem KY (w:World) (p:Option Addr) (c:Nat) (ns:List Nd) (hs:Small ns) (hc:gS ns) (ha:ay w p ns) (hl0:bZ w) (he:(bg ns).2=0):
  Calls Tryz.prog 10 #[.slice p ns.length c] w (iO ns w):=by
 have hch:∀W,Below w.heap.size w W→Calls Tryz.prog 27 #[.slice p ns.length c] W fun e w'=>e=.returned (.tuple #[.int .i64 (bg ns).1,.int .i64 0])∧Below W.heap.size W w':=fun W hW=>by have:=yL W p c ns hs hc (aF hW ha) (bZ.later hl0 hW);unfold tX at this;rw [he] at this;exact this
 have ZE:=hid hch;have kj:=hid (ow he);have OZ:=hid (uz he);have ZF:=hid he;obtain⟨_,hL1,hwt⟩:=taken he;have Hwt:=hid hwt;have HN:=hid ha;have hL5:(ns.length:Int)≤5000:=by have:=hs.1;omega
 have hL0:(1:Int)≤(ns.length:Int):=af;have kI:=hid hc;have Hs:=hid hs;unfold iO;clear hch hs hc ha hl0 he hwt;generalize (bg ns).1=a at*;go_enter Tryz.func10,Tryz.ntmps10;go_wp2_with (go_at_call 27;((with_reducible refine(ZE.out _ p6).mono ?_));rintro e w' ⟨rfl,hb⟩;obtain⟨g,rfl⟩:=aC hb;clear hb);obtain⟨FB,IB⟩:∃FB,FB=w.heap.size+1+g.size:=⟨_,rfl⟩;rw [←IB];obtain⟨wa,oH⟩:∃wa,wa=grow (w.alloc (Obj.cells #[Value.slice none 0 0,Value.slice none 0 0,Value.slice none 0 0,Value.slice none 0 0] 28)) g:=⟨_,rfl⟩;rw [←oH];have WH:wa.heap.size=FB:=by rw [oH,IB];simp
 have ajG:Below w.heap.size w wa:=by rw [oH];repeat (first|exact Below.refl _ _|refine bG ?_ _|refine bA ?_ _)
 have an0:wa.heap[w.heap.size]?=some (.cells #[Value.slice none 0 0,Value.slice none 0 0,Value.slice none 0 0,Value.slice none 0 0] 28 (0,0)):=by
  rw [oH];exact(dK _ g _ ak).trans (heap_alloc_new _ _)
 have hcell:=hid an0;have hNa:=hid (aF ajG HN.out);have atp:=hid ajG;clear oH an0 ajG ZE;obtain⟨w1,xg⟩:∃w1,w1=wa.alloc (Obj.cells #[Value.slice p ns.length c,Value.slice none 0 0,Value.slice none 0 0,Value.slice none 0 0,Value.slice none 0 0,Value.slice none 0 0,Value.slice none 0 0,Value.int IntKind.i64 0,Value.int IntKind.i64 0] 63):=⟨_,rfl⟩;rw [←xg];have iZ:cC FB p c ns.length w1 (sZ 0) (.slice none 0 0) (.slice none 0 0) (.slice none 0 0) (.slice none 0 0) (.slice none 0 0) (.slice none 0 0):=by
  refine⟨by rw [xg,←WH];exact heap_alloc_new _ _,⟨rfl,fun i v l a b=>?_,fun i j v u _ a b g e=>?_⟩,⟨rfl,.inl ⟨rfl,rfl⟩⟩⟩
  ·have hv:v=.slice none 0 0:=by
    rcases i with _|_|_|_|_|i<;>simp at a<;>exact a.symm
   have hl:l=[]:=by
    rcases i with _|_|_|_|_|i<;>simp [Fs.rows,sZ] at b<;>first|exact b|exact b.symm
   subst hv hl;exact⟨rfl,.inl ⟨rfl,rfl⟩⟩
  ·have hv:v=.slice none 0 0:=by
    rcases i with _|_|_|_|_|i<;>simp at a<;>exact a.symm
   subst hv;simp [Value.ownBlock] at e
 have an1:w1.heap.size=FB+1:=by rw [xg];simp [WH]
 have hb1:Below FB wa w1:=by rw [xg,←WH];exact au _ _
 have pn:=hid hb1;have HF1:=hid iZ;have hr1:w1.heap[w.heap.size]?=some (.cells #[Value.slice none 0 0,Value.slice none 0 0,Value.slice none 0 0,Value.slice none 0 0] 28 (0,0)):=by rw [hb1.block _ af];exact hcell.out
 have Hr1:=hid hr1;have zj:w.heap.size<FB:=af;have Hws:=hid WH;have azQ:=hid an1;clear xg iZ hb1 hr1 IB WH an1;go_loopw [24] (fun iv wr=>∃j:Nat,iv=.int .i64 j∧j≤ns.length∧Hid (FP FB p c ns.length (sZ j) w1 wr)) (fun iv _=>ns.length - (intOf iv).toNat)
 case atStart=>exact⟨0,rfl,Nat.zero_le _,hid (HF1.out.fp (Below.refl _ _) (eo.refl _ _) (Nat.le_refl _))⟩
 case round=>
  obtain⟨j,rfl,hj,hJ⟩:=hrel;obtain⟨r0,r1,r2,r3,r4,r5,gH⟩:=hJ.out.Ak;have X9:=hid gH;have hj0:(0:Int)≤(j:Int):=af;have hrs:=gH.lt;by_cases hjL:j<ns.length
  ·have hj1:(j:Int)<(ns.length:Int):=by omega
   have c2:wr.cell? ⟨FB,2,none⟩=some r1:=gH.cell 2;have f2:wr.frozen? ⟨FB,2,none⟩=false:=gH.frozen 2;have IE:=au wr (.cells #[.int .i64 (-1)] 3);have HA:=hid (gH.later IE);have HbA:=hid IE;have hr1:=gH.rows.rows 0 _ _ rfl rfl;have atq:=hid hr1;clear gH IE hr1;go_wp2_with (at_builtin;go_loud (refine lX rfl _ _ rfl (FB+1) r1 (List.replicate j (-1)) (-1) wr.heap.size 1 rfl ?yH rfl ?adj ?agT ?pZ ?p4))
   case yH=>exact bR atq.out HbA.out
   case adj=>
    have:=heap_alloc_new wr (.cells #[.int .i64 (-1)] 3);simp only [World.cell?];rw [this];rfl
   case agT=>simp;omega
   case pZ=>simp;omega
   case p4=>
    intro v' W1 k1 k2 k3;have h8:=HA.out.WI k2 k1 (by simpa using k3);obtain⟨vo,vn,vc,rfl⟩:∃vo vn vc,v'=.slice vo vn vc:=by
     exact Ku
    have hne:=Dz (HA.out.rows.rows 0 _ _ rfl rfl) HA.out.heap aj;have hh1:W1.heap[FB]?=some (.cells #[.slice p ns.length c,r0,r1,r2,r3,r4,r5,.int .i64 0,.int .i64 0] 63 (0,0)):=by rw [k2.block FB HA.out.lt (fun e=>hne e.symm)];exact HA.out.heap
    have c2w:W1.cell? ⟨FB,2,none⟩=some r1:=by simp [World.cell?,hh1]
    have f2w:W1.frozen? ⟨FB,2,none⟩=false:=by simp [World.frozen?,hh1]
    have o9:∀k,r1.ownBlock=some k→FB≤k:=fun k hk=>by have:=((HA.out.rows.rows 0 _ _ rfl rfl).lt k hk).1;omega
    have hP8:=hid ((hJ.out.later HbA.out af).trans (h8.fp (((Below.refl FB _).grown k2 (by have:=HA.out.lt;omega) o9).setCell (p:=⟨FB,2,none⟩) (Nat.le_refl _) _) ((qi (HA.out.rows.rows 0 _ _ rfl rfl) k2).trans (ew 2 _)) (by simpa using k2.size)));clear h8 k1 k2 k3 hne hh1 o9;go_wp2;go_roundw
    case rel=>
     refine⟨j+1,by go_num,by omega,hid ?_⟩;have:=hP8.out;have e:({sZ j with uses:=(List.replicate j (-1):List Int)++[-1]}:Fs)=sZ (j+1):=by unfold sZ;rw [List.replicate_succ']
     rw [←e];exact this
    case measure=>simp [intOf];omega
  ·obtain rfl:j=ns.length:=by omega
   obtain⟨m,hm⟩:∃m,ns.length=m+1:=⟨ns.length - 1,by omega⟩;have od:m<ns.length:=af;have j8:(ns.length:Int) - 1=(m:Int):=af;have Hm:=hid hm;have hbF:Below FB wa wr:=pn.out.trans hJ.out.below;have HbF:=hid hbF;obtain⟨b,o,hp,bO,ct,aG,_,_,k2,_⟩:=bh hNa.out od;have Xh:b<FB:=by have:=Hws.out;omega
   have k2r:wr.cell? ⟨b,o+m*4+2,none⟩=some (.slice ns[m].kp ns[m].kids.length ns[m].aP):=(hbF.cell (p:=⟨b,_,none⟩) Xh).trans k2;have bW:ax ns (m:Int)=ns[m].kids:=iA;have hlk:=OZ.out;rw [show ns.length - 1=m by omega,bW] at hlk;obtain⟨y,hy⟩:∃y,ns[m].kids.length=y+1:=⟨ns[m].kids.length - 1,by omega⟩;have DJ:y<ns[m].kids.length:=af;obtain⟨bk,ok,eO,lg,fN⟩:=bQ aG DJ;have eA:=(hbF.cell (p:=⟨bk,_,none⟩) (show bk<FB by have:=Hws.out;omega)).trans fN;have fR:ns[m].kids.getD y 0=ns[m].kids[y]:=by simp [List.getD,List.getElem?_eq_getElem DJ]
   have dA:=(bH kj.out (n:=(m:Int)) af) ns[m].kids[y] (by rw [bW];exact List.getElem_mem DJ);rw [fR] at eA;obtain⟨z,hz⟩:∃z:Nat,ns[m].kids[y]=(z:Int):=⟨(ns[m].kids[y]).toNat,by omega⟩;rw [hz] at dA eA;have hzl:z<ns.length:=af;have nI:1+wt ns z≤wt ns m:=by
    exact ae4
   have Wh:=Hwt.out;rw [show ns.length - 1=m by omega] at Wh;have GU:cB ns=aA ns ns.length (z:Int) ((0:Nat):Int) false (iX ns.length):=by
    unfold cB;simp only;rw [j8,bW,hy,show y+1 - 1=y by omega,fR,hz];rfl
   have an3:=hid GU;have hst:=X9.out.start;have hinv:cN ns.length (iX ns.length):=⟨by simp [iX],by simp [iX],by simp [iX],by simp [iX],by simp [iX],by simp [iX],by simp [iX]⟩;have ajH:=hid (G5 wr FB hrs);have agc:=hid (Ex wr FB hrs);have gZ:=QJ kj.out hNa.out kI.out (by have:=Hws.out;omega) ns.length z hzl hzl 0 false _ (iX ns.length) ⟨_,_,_,_,_,_,hst⟩ hinv (hbF.trans agc.out) (by simp [iX]) (by simp [iX];omega) (by simp [iX];omega);rw [←an3.out] at gZ;have HWz:=hid (show mP wr FB=mP wr FB from rfl);unfold mP at gZ;have zk:=hid gZ;have hy9:(y:Int)≤20000:=by have:=(Hs.out.2 ns[m] (List.getElem_mem od)).1;omega
   have c3:wr.cell? ⟨FB,3,none⟩=some r2:=gH.cell 3;have c4:wr.cell? ⟨FB,4,none⟩=some r3:=gH.cell 4;have c6:wr.cell? ⟨FB,6,none⟩=some r5:=gH.cell 6;have f3:=gH.frozen 3;have f4:=gH.frozen 4;have f6:=gH.frozen 6;have azS:¬b=FB:=af;have azT:¬FB=b:=af;have azU:¬bk=FB:=by have:=Hws.out;omega
   have azV:¬FB=bk:=af;have NS:((y+1:Nat):Int) - 1=(y:Int):=af;have y0:(0:Int)≤(y:Int):=af;have Ye:b<wr.heap.size:=af;have azW:bk<wr.heap.size:=by have:=Hws.out;omega
   have m0:(0:Int)≤(m:Int):=af;have m2:(m:Int)<(ns.length:Int):=af;rw [eO,hy] at k2r;rw [hp];rw [hp] at zk;clear hst hinv gZ GU gH k2 bW hlk fR hz eO fN ct aG hbF nI Wh hm DJ hy;go_wp2_with (go_at_call 28;refine zk.out.mono ?_);intro e w9 hh
   first|(subst hh;intro kJ)|(obtain⟨rfl,kJ⟩:=hh)
   obtain⟨q0,q1,q2,q3,q4,q5,gH⟩:=kJ.Ak;have kg:=ajH.out.trans kJ.keep;have hR9:w9.heap[w.heap.size]?=some (.cells #[Value.slice none 0 0,Value.slice none 0 0,Value.slice none 0 0,Value.slice none 0 0] 28 (0,0)):=kg _ _ _ (hJ.out.keep _ _ _ Hr1.out aj aj af) aj aj af;have gA:Below FB wa w9:=(HbF.out.trans agc.out).trans kJ.below;have Ot:Below w.heap.size w w9:=atp.out.trans (gA.mono af);have c8:w9.cell? ⟨FB,8,none⟩=some (.int .i64 (cB ns).e):=gH.cell 8;have c7:w9.cell? ⟨FB,7,none⟩=some (.int .i64 (cB ns).bE):=gH.cell 7;have R0:w9.cell? ⟨w.heap.size,0,none⟩=some (.slice none 0 0):=wQ;have R1:w9.cell? ⟨w.heap.size,1,none⟩=some (.slice none 0 0):=wQ;have R2:w9.cell? ⟨w.heap.size,2,none⟩=some (.slice none 0 0):=wQ;have R3:w9.cell? ⟨w.heap.size,3,none⟩=some (.slice none 0 0):=wQ;have Rf:∀k,w9.frozen? ⟨w.heap.size,k,none⟩=false:=fun k=>by simp [World.frozen?,hR9]
   have Rf0:=Rf 0;have Rf1:=Rf 1;have Rf2:=Rf 2;have Rf3:=Rf 3;have HR9:=hid hR9;have ace:=hid Ot;have Em:=hid gH;have as7:¬w.heap.size=FB:=af;have as8:¬FB=w.heap.size:=af;by_cases ID:(cB ns).e=0
   ·have hout:cy ns=(cB ns,0,0):=by unfold cy;rw [if_neg (by rw [ZF.out];decide),if_neg (by rw [ID];decide)]
    have DO:=hid hout;rw [ID] at c8;have d1:w9.cell? ⟨FB,1,none⟩=some q0:=gH.cell 1;have d2:w9.cell? ⟨FB,2,none⟩=some q1:=gH.cell 2;have d3:w9.cell? ⟨FB,3,none⟩=some q2:=gH.cell 3;have d4:w9.cell? ⟨FB,4,none⟩=some q3:=gH.cell 4;obtain⟨a0,b0,e0,rfl⟩:∃a n c,q0=.slice a n c:=by
     exact UW
    obtain⟨a1,b1,e1,rfl⟩:∃a n c,q1=.slice a n c:=by
     exact UO
    obtain⟨a2,b2,e2,rfl⟩:∃a n c,q2=.slice a n c:=by
     exact UQ
    obtain⟨a3,b3,e3,rfl⟩:∃a n c,q3=.slice a n c:=by
     exact UR
    clear gH kg hR9 gA Ot hout kJ Rf;go_wp2;refine bodyPost_ret (v:=.tuple #[.agg #[.slice a0 b0 e0,.slice a1 b1 e1,.slice a2 b2 e2,.slice a3 b3 e3],.int .i64 0,.int .i64 0]) (by rw [iW rfl];simp [go_sem,R0,R1,R2,R3]) rfl ?_;rw [DO.out];have hsc:gR (FB+1) w9 (cB ns) (.slice a0 b0 e0) (.slice a1 b1 e1) (.slice a2 b2 e2) (.slice a3 b3 e3):=⟨Em.out.vars,Em.out.rows.rows 0 _ _ rfl rfl,Em.out.rows.rows 1 _ _ rfl rfl,Em.out.rows.rows 2 _ _ rfl rfl⟩;refine⟨_,_,_,_,rfl,(((ace.out.setCell (p:=⟨w.heap.size,0,none⟩) (Nat.le_refl _) _).setCell (p:=⟨w.heap.size,1,none⟩) (Nat.le_refl _) _).setCell (p:=⟨w.heap.size,2,none⟩) (Nat.le_refl _) _).setCell (p:=⟨w.heap.size,3,none⟩) (Nat.le_refl _) _, ?_⟩;exact UM
   ·have hout:cy ns=(sO,(cB ns).bE,(cB ns).e):=by unfold cy;rw [if_neg (by rw [ZF.out];decide),if_pos ID]
    have DO:=hid hout;clear gH kg hR9 gA Ot hout kJ Rf;go_wp2;refine wp_region_any ai ?_;obtain⟨wq,Xy⟩:∃wq:World,wq=w9.drew:=⟨_,rfl⟩;have hq7:wq.cell? ⟨FB,7,none⟩=some (.int .i64 (cB ns).bE):=by rw [Xy];exact c7
    have hq8:wq.cell? ⟨FB,8,none⟩=some (.int .i64 (cB ns).e):=by rw [Xy];exact c8
    have hqR:wq.heap[w.heap.size]?=some (.cells #[Value.slice none 0 0,Value.slice none 0 0,Value.slice none 0 0,Value.slice none 0 0] 28 (0,0)):=by rw [Xy];exact HR9.out
    refine Am.eT (Φ:=ajF FB (cB ns).bE (cB ns).e) (I:=fun _ _ w1=>w1=wq) (S:=fun _ w w'=>w'=w) ai ai (fun _ _=>false) (fun z=>by unfold Am.mj;exact List.all_eq_true.2 fun _ _=>rfl) OE ?_ ?_ _ Xy.symm
    ·intro kq o ca w1 f ho hI NG NH ah K hK;have hI:w1=wq:=hI;subst hI;have hc7:=hq7;have hc8:=hq8;have hR0:w1.cell? ⟨w.heap.size,0,none⟩=some (.slice none 0 0):=wR;have jX:w1.cell? ⟨w.heap.size,1,none⟩=some (.slice none 0 0):=wR;have qZ:w1.cell? ⟨w.heap.size,2,none⟩=some (.slice none 0 0):=wR;have hR3:w1.cell? ⟨w.heap.size,3,none⟩=some (.slice none 0 0):=wR;have hRf:∀k,w1.frozen? ⟨w.heap.size,k,none⟩=false:=fun k=>by simp [World.frozen?,hqR]
     have hS0:w1.setCell ⟨w.heap.size,0,none⟩ (.slice none 0 0)=w1:=eN hqR rfl;have hS1:w1.setCell ⟨w.heap.size,1,none⟩ (.slice none 0 0)=w1:=eN hqR rfl;have JQ:w1.setCell ⟨w.heap.size,2,none⟩ (.slice none 0 0)=w1:=eN hqR rfl;have hS3:w1.setCell ⟨w.heap.size,3,none⟩ (.slice none 0 0)=w1:=eN hqR rfl;have hfn:∀f,ca.eval (.func f)=.func (.func f) #[] #[]:=fun _=>rfl
     have hcs:∀v,ca.eval (.const v)=v:=fun _=>rfl
     rcases kq with _|_|_|_|_|_|_|_|_|_|_|_|kq
     ·cases ho;refine Am.rv rfl rfl (hK _ _ rfl rfl rfl) ?_;exact zi
     ·exact Ux
     ·cases ho;have aQ:=Am.lk 73 1 ah fun _=>rfl
      exact vG
     ·cases ho;have aQ:=Am.lk 74 2 ah fun _=>rfl
      exact vG
     ·cases ho;have aQ:=Am.lk 75 3 ah fun _=>rfl
      refine Am.rv rfl rfl (hK _ _ rfl rfl rfl) ?_;generalize ca.eval=ev at*;simp [go_sem,execOp,hfn,hcs,aQ,hc7]
     ·exact Ux
     ·cases ho;have aQ:=Am.lk 77 5 ah fun _=>rfl
      exact vG
     ·cases ho;have aQ:=Am.lk 78 6 ah fun _=>rfl
      exact vG
     ·cases ho;have aQ:=Am.lk 79 7 ah fun _=>rfl
      refine Am.rv rfl rfl (hK _ _ rfl rfl rfl) ?_;generalize ca.eval=ev at*;simp [go_sem,execOp,hfn,hcs,aQ,hc8]
     ·cases ho;have aQ:=Am.lo 2 ah rfl;have nV:=Am.lk 72 0 ah fun _=>rfl
      refine Am.aD rfl rfl (wp_skip (w':=w1) ?_ (hK undef _ rfl rfl trivial));exact SY
     ·cases ho;have aQ:=Am.lk 76 4 ah fun _=>rfl
      exact vG
     ·cases ho;have aQ:=Am.lk 80 8 ah fun _=>rfl
      exact vG
     ·simp at ho
    ·intro ca w5 f hI hall hd hs aT bp;have hI:w5=wq:=hI;subst hI;have h3:ca.tmps.getD 3 undef=.int .i64 (cB ns).bE:=aT 10 _ 3 rfl rfl (fun _=>rfl);have h4:ca.tmps.getD 4 undef=.int .i64 (cB ns).e:=aT 11 _ 4 rfl rfl (fun _=>rfl);have bf:=Am.bC hd hs bp;simp only [List.foldl_cons,List.foldl_nil,h3,h4] at bf;obtain⟨yf,jL⟩:∃y:Nat→Value,∀t,ca.tmps.getD t undef=y t:=⟨_,fun _=>rfl⟩;simp only [jL] at bf;clear jL;clear h3 h4 aT bp hall hd hs;subst bf;simp only [List.setIfInBounds_toArray,List.set_cons_succ,List.set_cons_zero];have HS5:=hid Xy;clear Xy;go_wp2;have hR0:w5.cell? ⟨w.heap.size,0,none⟩=some (.slice none 0 0):=wR;have jX:w5.cell? ⟨w.heap.size,1,none⟩=some (.slice none 0 0):=wR;have qZ:w5.cell? ⟨w.heap.size,2,none⟩=some (.slice none 0 0):=wR;have hR3:w5.cell? ⟨w.heap.size,3,none⟩=some (.slice none 0 0):=wR;refine bodyPost_ret (v:=.tuple #[.agg #[.slice none 0 0,.slice none 0 0,.slice none 0 0,.slice none 0 0],.int .i64 (cB ns).bE,.int .i64 (cB ns).e]) (by rw [iW rfl];simp [go_sem,hR0,jX,qZ,hR3]) rfl ?_;rw [DO.out];exact⟨_,_,_,_,rfl,by rw [HS5.out];exact ace.out.drew,mo _ _⟩
theorem Cc (w:World) (p:Option Addr) (c:Nat) (ns:List Nd) (hs:Small ns) (hc:gS ns) (ha:ay w p ns) (hl0:bZ w):
  Calls Tryz.prog 10 #[.slice p ns.length c] w (iO ns w):=by
 by_cases he:(bg ns).2=0
 ·exact KY w p c ns hs hc ha hl0 he
 ·exact G6 w p c ns hs hc ha hl0 he
end Go.Proofs.YtjchnliaglecoaaGreatDoor

/- A part of the proof. Conditions: none. -/
set_option maxRecDepth 100000
set_option maxHeartbeats 8000000
namespace Go.Proofs.YtjchnliaglecoaaGreatDoor
open Go Go.RowKit Go.Nodes
def pP (s s':Fs):Prop:=s'.e=s.e∧s'.bE=s.bE
theorem pP.trans {a b c:Fs} (h:pP a b) (k:pP b c):pP a c:=⟨k.1.trans h.1,k.2.trans h.2⟩
theorem pP.refl (a:Fs):pP a a:=⟨rfl,rfl⟩
theorem n5 {s:Fs} (h:s.e≠0) (n e:Int):bB s n e=s:=by unfold bB;rw [if_neg h]
theorem k8 {s:Fs} (h:s.e=0) (n e:Int):(bB s n e).e=e∧(bB s n e).bE=n:=by unfold bB;rw [if_pos h];exact⟨rfl,rfl⟩
theorem Bl {s:Fs} (h:s.e≠0) (ns:List Nd) (n fn:Int):pP s (cY ns s n fn):=by
 unfold cY;simp only;have h1:(if 0≤bn (dS ns n) then bB s n 110 else s)=s:=by split<;>first|exact n5 h n 110|rfl
 rw [h1];have h2:(if 200<(bY s fn).many.getD fn.toNat 0 then bB (bY s fn) n 2 else bY s fn)=bY s fn:=by split<;>first|exact n5 (s:=bY s fn) h n 2|rfl
 rw [h2];exact⟨rfl,rfl⟩
theorem EX {s:Fs} (h:s.e=0) {ns:List Nd} {n fn:Int} (hb:0≤bn (dS ns n)):(cY ns s n fn).e=110∧(cY ns s n fn).bE=n:=by
 unfold cY;simp only;rw [if_pos hb];have h0:=k8 h n 110;have hne:(bY (bB s n 110) fn).e≠0:=by show(bB s n 110).e≠0;rw [h0.1];decide
 have h2:(if 200<(bY (bB s n 110) fn).many.getD fn.toNat 0 then bB (bY (bB s n 110) fn) n 2 else bY (bB s n 110) fn)=bY (bB s n 110) fn:=by split<;>first|exact n5 hne n 2|rfl
 rw [h2];exact h0
theorem PD {s:Fs} (h:s.e=0) {ns:List Nd} {n fn:Int} (hb:¬0≤bn (dS ns n)) (hm:200<(bY s fn).many.getD fn.toNat 0):(cY ns s n fn).e=2∧(cY ns s n fn).bE=n:=by
 unfold cY;simp only;rw [if_neg hb,if_pos hm];exact k8 (s:=bY s fn) h n 2
theorem PE {s:Fs} {ns:List Nd} {n fn:Int} (hb:¬0≤bn (dS ns n)) (hm:¬200<(bY s fn).many.getD fn.toNat 0):cY ns s n fn=kD (bY s fn) n fn:=by
 unfold cY;simp only;rw [if_neg hb,if_neg hm]
theorem pQ (ns:List Nd) (k:Int):∀(pre:List Int) {s:Fs},s.e≠0→pre.foldl (fun s m=>if dS ns k==dS ns m then bB s k 110 else s) s=s
 |[],s,h=>rfl
 |m::pre,s,h=>by
  rw [List.foldl_cons];have h1:(if(dS ns k==dS ns m)=true then bB s k 110 else s)=s:=by split<;>first|exact n5 h k 110|rfl
  rw [h1];exact pQ ns k pre h
theorem uT (ns:List Nd) (k:Int):∀(pre:List Int) {s:Fs},s.e=0→pre.foldl (fun s m=>if dS ns k==dS ns m then bB s k 110 else s) s=if pre.any (fun m=>dS ns k==dS ns m) then bB s k 110 else s
 |[],s,h=>rfl
 |m::pre,s,h=>by
  rw [List.foldl_cons,List.any_cons];cases hm:(dS ns k==dS ns m) with
  |true=>
   rw [if_pos rfl,Bool.true_or,if_pos rfl];exact pQ ns k pre (by rw [(k8 h k 110).1];decide)
  |false=>
   rw [if_neg aj,Bool.false_or];exact uT ns k pre h
theorem n6 (ns:List Nd) (fn:Int):∀(ks pre:List Int) {s:Fs},s.e≠0→pP s (cg ns fn pre ks s)
 |[],_,s,h=>pP.refl s
 |k::ks,pre,s,h=>by
  unfold cg;rw [pQ ns k pre h];have h1:=Bl h ns k fn;exact h1.trans (n6 ns fn ks (pre++[k]) (by rw [h1.1];exact h))
theorem jn (ns:List Nd) (k:Nat) (n fn:Int) (loop:Bool) {s:Fs} (h:s.e≠0):aA ns k n fn loop s=s:=by
 cases k with
 |zero=>rfl
 |succ k=>unfold aA;rw [if_pos h]
theorem vP (ns:List Nd) (k:Nat) (fn:Int) (loop:Bool):∀(l:List Int) {s:Fs},s.e≠0→l.foldl (fun s q=>aA ns k q fn loop s) s=s
 |[],s,h=>rfl
 |q::l,s,h=>by rw [List.foldl_cons,jn ns k q fn loop h];exact vP ns k fn loop l h
abbrev ey:=List (List UInt8 × Int)
def cr (nm:ey) (t:List UInt8):Option Int:=(nm.reverse.find? (fun x=>x.1==t)).map (·.2)
structure eu (ns:List Nd) (s:Fs) (bl:List ey):Prop where
 seen:s.seen=(bl.flatten).map (·.2)
 text:∀x∈bl.flatten,dS ns (fP s x.2)=x.1
theorem Bn {ns:List Nd} {s:Fs} {bl:List ey} (h:eu ns s bl) (t:List UInt8):s.seen.reverse.find? (fun v=>dS ns (fP s v)==t)=cr bl.flatten t:=by
 unfold cr;rw [h.seen,←List.map_reverse,List.find?_map];congr 1;have ht:∀x∈(bl.flatten).reverse,dS ns (fP s x.2)=x.1:=fun x hx=>h.text x x7
 generalize (bl.flatten).reverse=l at ht
 induction l with
 |nil=>rfl
 |cons x l ih=>
  rw [List.find?_cons,List.find?_cons];simp only [Function.comp];rw [ht x ak];split
  ·rfl
  ·exact ih fun y hy=>ht y (by simp [hy])
theorem Bo (a b:ey) (t:List UInt8):cr (a++b) t=(cr b t).or (cr a t):=by
 unfold cr;rw [List.reverse_append,List.find?_append];cases List.find? (fun x=>x.1==t) b.reverse<;>simp
theorem yg (a:ey) (u t:List UInt8) (v:Int):cr (a++[(u,v)]) t=if u==t then some v else cr a t:=by
 rw [Bo];unfold cr;simp only [List.reverse_singleton,List.find?_cons,List.find?_nil];cases u==t<;>simp
end Go.Proofs.YtjchnliaglecoaaGreatDoor

/- A part of the proof. Conditions: none. -/
set_option maxRecDepth 100000
set_option maxHeartbeats 8000000
namespace Go.Proofs.YtjchnliaglecoaaGreatDoor
open Go Go.RowKit Go.Nodes
abbrev tR (w:World) (b k:Nat) (D:DataW Unit):Prop:=w.ownsMap Tryz.prog 9 (plainElem Tryz.prog 3) b k D
abbrev tW (w:World) (b k:Nat) (D:DataW Unit):Prop:=w.ownsMap Tryz.prog 3 (plainElem Tryz.prog 3) b k D
structure fe (w:World) (b:Nat) (nm:ey):Prop where
 own:∃k D,tR w b k D∧k≤nm.length∧∀t:List UInt8,Maps.has D (.string t)=(cr nm t).isSome∧∀v,cr nm t=some v→D.atKey (.string t) (.lit (.int .i64 0))=.lit (.int .i64 v)
structure sD (w:World) (b:Nat) (l:List Int) (N:Nat):Prop where
 own:∃k D,tW w b k D∧k≤N∧∀fn:Nat,D.atKey (.int .i64 fn) (.lit (.int .i64 0))=.lit (.int .i64 (l.getD fn 0))
def aJ (FB mm:Nat) (aB:List Nat) (v0 v1 v2 v3 v4:Value) (g:Nat):Prop:=g=FB∨g=mm∨g∈aB∨v0.ownBlock=some g∨v1.ownBlock=some g∨v2.ownBlock=some g∨v3.ownBlock=some g∨v4.ownBlock=some g
structure aK (B:Nat) (w w':World) (O O':Nat→Prop):Prop where
 below:Below B w w'
 keep:∀g,g<w.heap.size→¬O g→w'.heap[g]?=w.heap[g]?
 own:∀g,O' g→O g∨w.heap.size≤g
theorem aK.refl (B:Nat) (w:World) (O:Nat→Prop):aK B w w O O:=⟨Below.refl B w,fun _ _ _=>rfl,fun _ h=>.inl h⟩
theorem aK.trans {B:Nat} {a b c:World} {O O' O'':Nat→Prop} (h:aK B a b O O') (k:aK B b c O' O''):aK B a c O O'':=by
 have hs:=h.below.size;refine⟨h.below.trans k.below,fun g hg hO=>?_,fun g hO=>?_⟩
 ·rw [k.keep g af (fun e=>(h.own g e).elim hO af)];exact h.keep g hg hO
 ·rcases k.own g hO with h1|h1
  ·exact h.own g h1
  ·exact .inr af
theorem aK.fresh {B:Nat} {w w':World} {O:Nat→Prop} (hb:Below w.heap.size w w') (hB:B≤w.heap.size):aK B w w' O O:=⟨hb.mono hB,fun g hg _=>hb.block g hg,fun _ h=>.inl h⟩
structure bF (B FB:Nat) (p:Option Addr) (c L mm N:Nat) (W:World) (s:Fs) (bl:List ey) (aB:List Nat) (v0 v1 v2 v3 v4:Value):Prop where
 ge:B≤FB
 heap:W.heap[FB]?=some (.cells #[.slice p L c,v0,v1,v2,v3,v4,.map (some mm)] 189 (0,0))
 rows:gh B W [v1,v2,v3] [s.uses,s.funcs,s.cF]
 vars:W.ownsRow B 114 4 v0 s.vars.length (cx s.vars)
 blocks:W.ownsRow B 119 1 v4 aB.length (aB.map fun b=>.map (some b))
 len:aB.length=bl.length
 maps:∀(i b:Nat) (nm:ey),aB[i]?=some b→bl[i]?=some nm→fe W b nm
 jY:∀b∈aB,B≤b
 nodup:aB.Nodup
 many:sD W mm s.many N
 ju:B≤mm
 jZ:mm ∉ aB
theorem fe.lt {w:World} {b:Nat} {nm:ey} (h:fe w b nm):b<w.heap.size:=by
 obtain⟨k,D,h1,_⟩:=h.own;exact h1.lt
theorem sD.lt {w:World} {b N:Nat} {l:List Int} (h:sD w b l N):b<w.heap.size:=by
 obtain⟨k,D,h1,_⟩:=h.own;exact h1.lt
theorem fe.kept {w w':World} {b:Nat} {nm:ey} {row:Option Nat} (h:fe w b nm) (hg:w.grownBy w' row) (hne:some b≠row):fe w' b nm:=by
 obtain⟨k,D,h1,h2,h3⟩:=h.own;exact⟨k,D,h1.kept hg hne,h2,h3⟩
theorem sD.kept {w w':World} {b N:Nat} {l:List Int} {row:Option Nat} (h:sD w b l N) (hg:w.grownBy w' row) (hne:some b≠row):sD w' b l N:=by
 obtain⟨k,D,h1,h2,h3⟩:=h.own;exact⟨k,D,h1.kept hg hne,h2,h3⟩
theorem fe.map {w:World} {b:Nat} {nm:ey} (h:fe w b nm):∃es clock,w.heap[b]?=some (.map es clock):=by
 obtain⟨k,D,⟨es,uZ,hh,_⟩,_⟩:=h.own;exact⟨es,uZ,hh⟩
theorem sD.map {w:World} {b N:Nat} {l:List Int} (h:sD w b l N):∃es clock,w.heap[b]?=some (.map es clock):=by
 obtain⟨k,D,⟨es,uZ,hh,_⟩,_⟩:=h.own;exact⟨es,uZ,hh⟩
section
variable {B FB c L mm N:Nat} {p:Option Addr} {w w':World} {s:Fs} {bl:List ey} {aB:List Nat} {v0 v1 v2 v3 v4:Value}
theorem bF.lt (h:bF B FB p c L mm N w s bl aB v0 v1 v2 v3 v4):FB<w.heap.size:=(Array.getElem?_eq_some_iff.1 h.heap).1
theorem bF.cell (h:bF B FB p c L mm N w s bl aB v0 v1 v2 v3 v4) (k:Nat):w.cell? ⟨FB,k,none⟩=(#[Value.slice p L c,v0,v1,v2,v3,v4,.map (some mm)]:Array Value)[k]?:=by
 simp [World.cell?,h.heap]
theorem bF.frozen (h:bF B FB p c L mm N w s bl aB v0 v1 v2 v3 v4) (k:Nat):w.frozen? ⟨FB,k,none⟩=false:=by simp [World.frozen?,h.heap]
theorem jW {B' n e size:Nat} {xs:List Value} {v:Value} (h:w.ownsRow B' e size v n xs) {g:Nat} (hg:v.ownBlock=some g):∃cs fz,w.heap[g]?=some (.cells cs e fz):=by
 obtain⟨cc,fz,hh⟩:=Lib.ownsRow_kind h g hg;exact⟨_,_,hh⟩
theorem fF {B' n e size t:Nat} {xs:List Value} {v:Value} {cs:Array Value} {fz:Nat × Nat} {g:Nat} (h:w.ownsRow B' e size v n xs) (hx:w.heap[g]?=some (.cells cs t fz)) (ht:t≠e):v.ownBlock≠some g:=fun e2=>by
 obtain⟨c2,f2,hh⟩:=jW h e2;rw [hx] at hh;cases hh;exact ht rfl
theorem kK {B' n e size:Nat} {xs:List Value} {v:Value} {es:Array MapEntry} {uZ g:Nat} (h:w.ownsRow B' e size v n xs) (hx:w.heap[g]?=some (.map es uZ)):v.ownBlock≠some g:=fun e2=>by
 obtain⟨c2,f2,hh⟩:=jW h e2;rw [hx] at hh;cases hh
theorem tS {B1 B2 n1 n2 e1 e2 s1 s2:Nat} {xs ys:List Value} {u v:Value} (h:w.ownsRow B1 e1 s1 u n1 xs) (k:w.ownsRow B2 e2 s2 v n2 ys) (ht:e1≠e2):∀g,u.ownBlock=some g→v.ownBlock≠some g:=fun g e f=>by
 obtain⟨c1,f1,h1⟩:=jW h e;obtain⟨c2,f2,h2⟩:=jW k f;rw [h1] at h2;cases h2;exact ht rfl
theorem yG {u v:Value} (h:∀g,u.ownBlock=some g→v.ownBlock≠some g):v.ownBlock=none∨v.ownBlock≠u.ownBlock:=by
 cases hv:v.ownBlock with
 |none=>exact .inl rfl
 |some g=>exact .inr fun e=>h g e.symm hv
theorem bF.later (h:bF B FB p c L mm N w s bl aB v0 v1 v2 v3 v4) (hb:Below w.heap.size w w'):bF B FB p c L mm N w' s bl aB v0 v1 v2 v3 v4:=by
 refine⟨h.ge,by rw [hb.block _ h.lt];exact h.heap,h.rows.later hb,bR h.vars hb,bR h.blocks hb,h.len,fun i b nm a e=>?_,h.jY,h.nodup, ?_,h.ju,h.jZ⟩
 ·have hm:=h.maps i b nm a e;obtain⟨k,D,⟨es,uZ,hh,hr⟩,h2,h3⟩:=hm.own;exact⟨k,D,⟨es,uZ,by rw [hb.block _ hm.lt];exact hh,hr⟩,h2,h3⟩
 ·obtain⟨k,D,⟨es,uZ,hh,hr⟩,h2,h3⟩:=h.many.own;exact⟨k,D,⟨es,uZ,by rw [hb.block _ h.many.lt];exact hh,hr⟩,h2,h3⟩
theorem bF.s7 (h:bF B FB p c L mm N w s bl aB v0 v1 v2 v3 v4) (j:Nat) {v v':Value} {l':List Int} (hj:[v1,v2,v3][j]?=some v) (hg:w.grownBy w' v.ownBlock) (hown:Ints B w' v' l') (vp:v'.ownBlock=v.ownBlock∨v'.ownBlock=some w.heap.size):
  w'.heap[FB]?=w.heap[FB]?∧gh B w' ([v1,v2,v3].set j v') ([s.uses,s.funcs,s.cF].set j l')∧w'.ownsRow B 114 4 v0 s.vars.length (cx s.vars)∧w'.ownsRow B 119 1 v4 aB.length (aB.map fun b=>.map (some b))∧
   (∀(i b:Nat) (nm:ey),aB[i]?=some b→bl[i]?=some nm→fe w' b nm)∧sD w' mm s.many N:=by
 have hi:j<[s.uses,s.funcs,s.cF].length:=by rw [←h.rows.len];exact(List.getElem?_eq_some_iff.1 hj).1
 have hI:=h.rows.rows j v _ hj (List.getElem?_eq_getElem hi);have hne:=fF hI h.heap aj;refine⟨hg.block FB h.lt (fun e=>hne e.symm),h.rows.put j hj hg hown vp,h.vars.kept hg (yG (tS hI h.vars aj)),h.blocks.kept hg (yG (tS hI h.blocks aj)),fun i b nm a e=>?_, ?_⟩
 ·have hm:=h.maps i b nm a e;obtain⟨es,uZ,hh⟩:=hm.map;exact hm.kept hg fun e2=>kK hI hh e2.symm
 ·obtain⟨es,uZ,hh⟩:=h.many.map;exact h.many.kept hg fun e2=>kK hI hh e2.symm
theorem bF.agN {s':Fs} {bl':List ey} {Ik:List Nat} {u0 u1 u2 u3 u4:Value} {N' mm':Nat} (fR:B≤FB) {i:Nat} {x:Value}
  (h1:w.heap[FB]?=some (.cells #[.slice p L c,v0,v1,v2,v3,v4,.map (some mm)] 189 (0,0))) (h1':(#[.slice p L c,v0,v1,v2,v3,v4,.map (some mm)]:Array Value).setIfInBounds i x=#[.slice p L c,u0,u1,u2,u3,u4,.map (some mm')])
  (h2:gh B w [u1,u2,u3] [s'.uses,s'.funcs,s'.cF]) (h3:w.ownsRow B 114 4 u0 s'.vars.length (cx s'.vars)) (h4:w.ownsRow B 119 1 u4 Ik.length (Ik.map fun b=>.map (some b))) (hlen:Ik.length=bl'.length)
  (h5:∀(i b:Nat) (nm:ey),Ik[i]?=some b→bl'[i]?=some nm→fe w b nm) (hmg:∀b∈Ik,B≤b) (CG:Ik.Nodup) (h6:sD w mm' s'.many N') (yu:B≤mm') (hmn:mm' ∉ Ik):
  bF B FB p c L mm' N' (w.setCell ⟨FB,i,none⟩ x) s' bl' Ik u0 u1 u2 u3 u4:=by
 have hg:=dY w FB i x;have hrow:∀(k:Nat) (v:Value) (l:List Int),[u1,u2,u3][k]?=some v→[s'.uses,s'.funcs,s'.cF][k]?=some l→Ints B (w.setCell ⟨FB,i,none⟩ x) v l:=fun k v l a b=>by
  have hk:=h2.rows k v l a b;exact hk.kept hg (by
   cases hv:v.ownBlock with
   |none=>exact .inl rfl
   |some g=>exact .inr fun e=>fF hk h1 aj (hv.trans e))
 refine⟨fR,by rw [cq h1 i x,h1'],⟨h2.len,hrow,h2.apart⟩,h3.kept hg (.inr (fF h3 h1 aj)),h4.kept hg (.inr (fF h4 h1 aj)),hlen,fun i b nm a e=>?_,hmg,CG, ?_,yu,hmn⟩
 ·have hm:=h5 i b nm a e;obtain⟨es,uZ,hh⟩:=hm.map;exact hm.kept hg fun e2=>by cases e2;rw [h1] at hh;cases hh
 ·obtain⟨es,uZ,hh⟩:=h6.map;exact h6.kept hg fun e2=>by cases e2;rw [h1] at hh;cases hh
end
end Go.Proofs.YtjchnliaglecoaaGreatDoor

/- A part of the proof. Conditions: none. -/
set_option maxRecDepth 100000
set_option maxHeartbeats 8000000
namespace Go.Proofs.YtjchnliaglecoaaGreatDoor
open Go Go.RowKit Go.Nodes
section
variable {B FB c L mm N:Nat} {p:Option Addr} {w w':World} {s:Fs} {bl:List ey} {aB:List Nat} {v0 v1 v2 v3 v4:Value}
theorem aK.grown {row:Option Nat} {O O':Nat→Prop} (hg:w.grownBy w' row) (hB:B≤w.heap.size) (hr:∀g,row=some g→B≤g∧O g) (hO':∀g,O' g→O g∨w.heap.size≤g):aK B w w' O O':=
 ⟨Below.grown (Below.refl B w) hg hB fun k e=>(hr k e).1,fun g h1 h2=>hg.block g h1 fun e=>h2 (hr g e.symm).2,hO'⟩
theorem bF.other (h:bF B FB p c L mm N w s bl aB v0 v1 v2 v3 v4) {row:Option Nat} (hg:w.grownBy w' row) (hF:row≠some FB):
  w'.heap[FB]?=some (.cells #[.slice p L c,v0,v1,v2,v3,v4,.map (some mm)] 189 (0,0)):=by rw [hg.block FB h.lt (fun e=>hF e.symm)];exact h.heap
theorem bF.V0 (h:bF B FB p c L mm N w s bl aB v0 v1 v2 v3 v4) {l':List Int} {N':Nat} (hg:w.grownBy w' (some mm)) (hm:sD w' mm l' N'):bF B FB p c L mm N' w' {s with many:=l'} bl aB v0 v1 v2 v3 v4:=by
 obtain⟨es,uZ,hh⟩:=h.many.map;have kr:∀{B' n e size:Nat} {xs:List Value} {v:Value},w.ownsRow B' e size v n xs→w'.ownsRow B' e size v n xs:=fun hr=>hr.kept hg (.inr (kK hr hh))
 refine⟨h.ge,h.other hg (fun e=>by cases e;rw [h.heap] at hh;cases hh),⟨h.rows.len,fun i v l a b=>kr (h.rows.rows i v l a b),h.rows.apart⟩,kr h.vars,kr h.blocks,h.len,fun i b nm a e=>?_,h.jY,h.nodup,hm,h.ju,h.jZ⟩;exact(h.maps i b nm a e).kept hg fun e2=>by cases e2;exact h.jZ (List.mem_of_getElem? a)
theorem bF.iR (h:bF B FB p c L mm N w s bl aB v0 v1 v2 v3 v4) {g cp i:Nat} (hv:v1=.slice (some ⟨g,0,none⟩) s.uses.length cp) (hi:i<s.uses.length) (x:Int):
  bF B FB p c L mm N (w.setCell ⟨g,i,none⟩ (.int .i64 x)) {s with uses:=s.uses.set i x} bl aB v0 v1 v2 v3 v4:=by
 have hI:=h.rows.rows 0 _ _ rfl rfl;subst hv;obtain⟨h1,h2,h3,h4,h5,h6⟩:=h.s7 (w':=w.setCell ⟨g,i,none⟩ (.int .i64 x)) (v':=.slice (some ⟨g,0,none⟩) s.uses.length cp) (l':=s.uses.set i x) 0 rfl (dY w g i _) (by have:=Ad hI i hi x;simpa using this) (.inl rfl);exact⟨h.ge,h1.trans h.heap,h2,h3,h4,h.len,h5,h.jY,h.nodup,h6,h.ju,h.jZ⟩
theorem bF.Mt (h:bF B FB p c L mm N w s bl aB v0 v1 v2 v3 v4) {i mb:Nat} {nm':ey} (hi:aB[i]?=some mb) (hg:w.grownBy w' (some mb)) (hm:fe w' mb nm'):bF B FB p c L mm N w' s (bl.set i nm') aB v0 v1 v2 v3 v4:=by
 have ji:i<aB.length:=(List.getElem?_eq_some_iff.1 hi).1;have hbl:i<bl.length:=by have:=h.len;omega
 obtain⟨es,uZ,hh⟩:=(h.maps i mb bl[i] hi (List.getElem?_eq_getElem hbl)).map;have kr:∀{B' n e size:Nat} {xs:List Value} {v:Value},w.ownsRow B' e size v n xs→w'.ownsRow B' e size v n xs:=fun hr=>hr.kept hg (.inr (kK hr hh))
 refine⟨h.ge,h.other hg (fun e=>by cases e;rw [h.heap] at hh;cases hh),⟨h.rows.len,fun i v l a b=>kr (h.rows.rows i v l a b),h.rows.apart⟩,kr h.vars,kr h.blocks,by simpa using h.len,fun j b nm a e=>?_,h.jY,h.nodup, ?_,h.ju,h.jZ⟩
 ·rw [List.getElem?_set] at e;by_cases Xk:i=j
  ·subst Xk;rw [if_pos rfl,if_pos hbl] at e;cases e;rw [hi] at a;cases a;exact hm
  ·rw [if_neg Xk] at e;refine(h.maps j b nm a e).kept hg fun e2=>Xk ?_
   cases e2;have pE:j<aB.length:=(List.getElem?_eq_some_iff.1 a).1;have e1:aB[i]=mb:=by rw [List.getElem?_eq_getElem ji] at hi;exact Option.some.inj hi
   have e3:aB[j]=mb:=by rw [List.getElem?_eq_getElem pE] at a;exact Option.some.inj a
   exact(List.getElem_inj h.nodup).1 (e1.trans e3.symm)
 ·exact h.many.kept hg fun e2=>by cases e2;exact h.jZ (List.mem_of_getElem? hi)
theorem bF.zJ (h:bF B FB p c L mm N w s bl aB v0 v1 v2 v3 v4) {v':Value} {l':List Vr} (hg:w.grownBy w' v0.ownBlock) (hown:w'.ownsRow B 114 4 v' l'.length (cx l')):
  bF B FB p c L mm N (w'.setCell ⟨FB,1,none⟩ v') {s with vars:=l'} bl aB v' v1 v2 v3 v4:=by
 have hF:v0.ownBlock≠some FB:=fF h.vars h.heap aj;have kr:∀{B' n e size:Nat} {xs:List Value} {v:Value},w.ownsRow B' e size v n xs→114≠e→w'.ownsRow B' e size v n xs:=fun hr he=>hr.kept hg (yG (tS h.vars hr he))
 refine bF.agN h.ge (h.other hg hF) rfl ⟨h.rows.len,fun i v l a b=>kr (h.rows.rows i v l a b) aj,h.rows.apart⟩ hown (kr h.blocks aj) h.len (fun i b nm a e=>?_) h.jY h.nodup ?_ h.ju h.jZ
 ·exact UJ
 ·obtain⟨es,uZ,hh⟩:=h.many.map;exact h.many.kept hg fun e2=>kK h.vars hh e2.symm
theorem bF.zy (h:bF B FB p c L mm N w s bl aB v0 v1 v2 v3 v4) {l':List Vr} (hg:w.grownBy w' v0.ownBlock) (hown:w'.ownsRow B 114 4 v0 l'.length (cx l')):
  bF B FB p c L mm N w' {s with vars:=l'} bl aB v0 v1 v2 v3 v4:=by
 have hF:v0.ownBlock≠some FB:=fF h.vars h.heap aj;have kr:∀{B' n e size:Nat} {xs:List Value} {v:Value},w.ownsRow B' e size v n xs→114≠e→w'.ownsRow B' e size v n xs:=fun hr he=>hr.kept hg (yG (tS h.vars hr he))
 refine⟨h.ge,h.other hg hF,⟨h.rows.len,fun i v l a b=>kr (h.rows.rows i v l a b) aj,h.rows.apart⟩,hown,kr h.blocks aj,h.len,fun i b nm a e=>?_,h.jY,h.nodup, ?_,h.ju,h.jZ⟩
 ·exact UJ
 ·obtain⟨es,uZ,hh⟩:=h.many.map;exact h.many.kept hg fun e2=>kK h.vars hh e2.symm
end
def kG (n e:Int):List PanicEntry:=[{v:=.iface 153 (.agg #[.int .i64 n,.int .i64 e]),recovered:=false}]
theorem jK (f:Value) (n e:Int) (w:World):Calls Tryz.prog 216 #[f,.bool true,.int .i64 n,.int .i64 e] w fun e' w'=>e'=.returned (.tuple #[])∧w'=w:=by
 go_enter Tryz.func216,Tryz.ntmps216;go_wp2;go_end0;exact⟨rfl,rfl⟩
theorem lp (f:Value) (n e:Int) (w:World):Calls Tryz.prog 216 #[f,.bool false,.int .i64 n,.int .i64 e] w fun e' w'=>e'=.panicked (kG n e)∧w'=w:=by
 go_enter Tryz.func216,Tryz.ntmps216;go_wp2;exact⟨rfl,rfl,rfl⟩
end Go.Proofs.YtjchnliaglecoaaGreatDoor

/- A part of the proof. Conditions: none. -/
set_option maxRecDepth 100000
set_option maxHeartbeats 8000000
namespace Go.Proofs.YtjchnliaglecoaaGreatDoor
open Go Go.RowKit Go.Nodes Go.Maps Go.WideMaps Go.ChangeShapes
theorem tN {B n e:Nat} {w:World} {xs:List Value} {v:Value} (h:w.ownsRow B e 1 v n xs) {i:Nat} (hi:i<n) (hx:xs.length=n):∃g cp,v=.slice (some ⟨g,0,none⟩) n cp∧B≤g∧w.cell? ⟨g,i,none⟩=xs[i]?∧n≤cp∧cp≤maxLen:=by
 rcases h.2 with⟨_,h2⟩|⟨g,cap,cur,hv,hg,hh,hn,hm,hsz,uV⟩
 ·omega
 ·refine⟨g,cap,hv,hg, ?_,hn,hm⟩;rw [cell_of_row w g i cur e (0,0) hh,←uV,List.getElem?_take,if_pos af];simp
theorem Tm {B:Nat} {W:World} {v0:Value} {vs:List Vr} (h:W.ownsRow B 114 4 v0 vs.length (cx vs)) {i:Nat} (hi:i<vs.length):∃g cp,v0=.slice (some ⟨g,0,none⟩) vs.length cp∧B≤g∧(∀j,j<4→W.cell? ⟨g,i*4+j,none⟩=(vs[i].cells)[j]?)∧(∀k,W.frozen? ⟨g,k,none⟩=false):=by
 rcases h.2 with⟨_,h2⟩|⟨g,cap,cur,hv,hg,hh,hn,hm,hsz,uV⟩
 ·omega
 ·refine⟨g,cap,hv,hg,fun j hj=>?_,fun k=>by simp [World.frozen?,hh]⟩;exact Tn
theorem ZP {B:Nat} {W:World} {vs:List Vr} {g cp:Nat} (h:W.ownsRow B 114 4 (.slice (some ⟨g,0,none⟩) vs.length cp) vs.length (cx vs)) {i:Nat} (hi:i<vs.length) {j:Nat} (hj:j<4) (x':Vr) (cv:Value) (hx:x'.cells=(vs[i].cells).set j cv):
  (W.setCell ⟨g,i*4+j,none⟩ cv).ownsRow B 114 4 (.slice (some ⟨g,0,none⟩) vs.length cp) (vs.set i x').length (cx (vs.set i x')):=by
 exact ad5
theorem fe.look {w:World} {mb:Nat} {nm:ey} (h:fe w mb nm) {t:ByteArray} (ht:t.size≤maxLen):∃c:Int,(∀v,cr nm t.toList=some v→c=v)∧
  (∀n,(Instr.lookup 119 (.map (some mb)) (.string t) true).run Tryz.prog (w.drewN n)=.ok (.tuple #[.int .i64 c,.bool (cr nm t.toList).isSome]) (w.drewN n)):=by
 rw [ByteArray.toList_eq];obtain⟨k,D,h1,h2,h3⟩:=h.own;have hkey:keyOf Tryz.prog 9 (.string t)=some (.string t.data.toList):=keyOf_string_mk Tryz.underlying9 ht;have hz:∀w':World,(zeroValue (3:Nat)).run Tryz.prog w'=.ok (.int .i64 0) w':=fun w'=>q9 w'
 obtain⟨h4,h5⟩:=h3 t.data.toList;have key:∀n,∃c:Int,(Instr.lookup 119 (.map (some mb)) (.string t) true).run Tryz.prog (w.drewN n)=.ok (.tuple #[.int .i64 c,.bool (Maps.has D (.string t.data.toList))]) (w.drewN n)∧D.atKey (.string t.data.toList) (.lit (.int .i64 0))=.lit (.int .i64 c):=fun n=>by
  have h1':=h1.kept (bK (below_drewN w n)) ak;obtain⟨v,ps,hrun,hv⟩:=h1'.look_ok AK Tryz.underlying119 (q9 _) (plainElem_int Tryz.underlying3 aj) hkey;obtain⟨c,rfl,hc,hwc⟩:=plainElem_int_inv Tryz.underlying3 hv;exact⟨c,hrun,congrArg Prod.fst hc⟩
 obtain⟨c,_,hc⟩:=key 0;refine⟨c,fun v hv=>?_,fun n=>?_⟩
 ·have:=h5 v hv;rw [hc] at this;cases this;rfl
 ·obtain⟨c',hrun,hc'⟩:=key n;rw [hc] at hc';cases hc';rw [hrun,h4]
theorem qp {bl:List ey} {j:Nat} (hj:j<bl.length) (t:List UInt8):cr (bl.take (j+1)).flatten t=(cr bl[j] t).or (cr (bl.take j).flatten t):=by
 rw [List.take_succ_eq_append_getElem hj,List.flatten_append,Bo];simp
theorem DU {ns:List Nd} {s:Fs} {bl:List ey} (hi:cN ns.length s) (h:eu ns s bl) {t:List UInt8} {v:Int} (hv:cr bl.flatten t=some v):0≤v∧v<s.vars.length:=by
 rw [←Bn h t] at hv;exact hi.seen v (by have:=List.mem_of_find?_eq_some hv;simpa using this)
theorem LY {ns:List Nd} {s:Fs} {bl:List ey} (h:eu ns s bl) (n fn:Int) (set:Bool):jq ns s n fn set=match cr bl.flatten (dS ns n) with|some v=>bT s n v fn set|none=>bB s n 110:=by
 unfold jq;rw [Bn h];rfl
section
variable {B FB mm N:Nat} {p:Option Addr} {c:Nat} {ns:List Nd} {W0 W:World} {s:Fs} {fY:List ey} {aB:List Nat} {v0 v1 v2 v3 v4:Value}
theorem bF.dr (h:bF B FB p c ns.length mm N W s fY aB v0 v1 v2 v3 v4) {g:Nat} (hO:aJ FB mm aB v0 v1 v2 v3 v4 g):B≤g∧g<W.heap.size:=by
 have rk:∀{e size n:Nat} {xs:List Value} {v:Value},W.ownsRow B e size v n xs→v.ownBlock=some g→B≤g∧g<W.heap.size:=fun hr e=>by
  obtain⟨cs,fz,hh⟩:=jW hr e;refine⟨?_,(Array.getElem?_eq_some_iff.1 hh).1⟩;rcases hr.2 with⟨h1,_⟩|⟨g',cap,cur,hv,hg,_⟩
  ·subst h1;cases e
  ·subst hv;cases e;exact hg
 rcases hO with e|e|e|e|e|e|e|e
 ·subst e;exact⟨h.ge,h.lt⟩
 ·subst e;exact⟨h.ju,h.many.lt⟩
 ·obtain⟨i,hi,e⟩:=List.getElem_of_mem e;have hib:i<fY.length:=by rw [←h.len];exact hi
  have hm:=h.maps i g fY[i] (by rw [←e];exact List.getElem?_eq_getElem hi) (List.getElem?_eq_getElem hib);exact⟨h.jY g (by rw [←e];exact List.getElem_mem hi),hm.lt⟩
 ·exact rk h.vars e
 ·exact rk (h.rows.rows 0 _ _ rfl rfl) e
 ·exact rk (h.rows.rows 1 _ _ rfl rfl) e
 ·exact rk (h.rows.rows 2 _ _ rfl rfl) e
 ·exact rk h.blocks e
theorem bF.xN (h:bF B FB p c ns.length mm N W s fY aB v0 v1 v2 v3 v4) {g cp i:Nat} (hv:v0=.slice (some ⟨g,0,none⟩) s.vars.length cp) (hi:i<s.vars.length) {j:Nat} (hj:j<4) (x':Vr) (cv:Value) (hx:x'.cells=(s.vars[i].cells).set j cv):
  bF B FB p c ns.length mm N (W.setCell ⟨g,i*4+j,none⟩ cv) {s with vars:=s.vars.set i x'} fY aB v0 v1 v2 v3 v4:=by
 have hb:v0.ownBlock=some g:=by rw [hv];rfl
 exact h.zy (by rw [hb];exact dY W g _ _) (by have:=h.vars;subst hv;exact ZP this hi hj x' cv hx)
theorem aK.row {w:World} {O:Nat→Prop} {g i:Nat} {x:Value} (hg:B≤g) (hO:O g) (hs:B≤w.heap.size):aK B w (w.setCell ⟨g,i,none⟩ x) O O:=
 aK.grown (dY w g i x) hs (fun k e=>by cases e;exact⟨hg,hO⟩) (fun _ h=>.inl h)
theorem wH (hF:bF B FB p c ns.length mm N W s fY aB v0 v1 v2 v3 v4) (hi:cN ns.length s) (hN:ay W0 p ns) (h0:W0.heap.size≤B) (hb0:Below B W0 W)
  (n fn:Nat) (hn:n<ns.length) (hbl:fY.length≤100000) (hf:cr fY.flatten (dS ns n)=none):
  Calls Tryz.prog 215 #[.pointer (some ⟨FB,0,none⟩),.int .i64 n,.int .i64 fn] W fun e w'=>e=.panicked (kG n 110)∧aK B W w' (aJ FB mm aB v0 v1 v2 v3 v4) (aJ FB mm aB v0 v1 v2 v3 v4):=by
 have Tp:=trivial;exact adf
theorem wI (hF:bF B FB p c ns.length mm N W s fY aB v0 v1 v2 v3 v4) (hi:cN ns.length s) (fy:eu ns s fY) (hN:ay W0 p ns) (h0:W0.heap.size≤B) (hb0:Below B W0 W)
  (n fn:Nat) (hn:n<ns.length) (hbl:fY.length≤100000) (hsz:s.vars.length≤100000) (vv:Nat) (hf:cr fY.flatten (dS ns n)=some (vv:Int)):
  Calls Tryz.prog 215 #[.pointer (some ⟨FB,0,none⟩),.int .i64 n,.int .i64 fn] W fun e w'=>(∃gv cp,v0=.slice (some ⟨gv,0,none⟩) s.vars.length cp∧vv<s.vars.length∧e=.returned (.pointer (some ⟨gv,vv*4,none⟩)))∧
   bF B FB p c ns.length mm N w' (bT s n vv fn false) fY aB v0 v1 v2 v3 v4∧aK B W w' (aJ FB mm aB v0 v1 v2 v3 v4) (aJ FB mm aB v0 v1 v2 v3 v4):=by
 have aX:=hb0.mono h0;have xA:vv<s.vars.length:=by have:=DU hi fy hf;omega
 obtain⟨b,o,hp,bO,ct,aG,_,Fi,_,_⟩:=bh hN hn;have k1:=(aX.cell (p:=⟨b,_,none⟩) bO).trans Fi;have ke:dS ns (n:Int)=(ns[n]).text.toList:=ri;have vT:(ns[n]).text.size≤maxLen:=aG.2.2.1;rw [ke] at hf;have n0:(0:Int)≤(n:Int):=af;have n1:(n:Int)<(ns.length:Int):=af;have pq:B≤W.heap.size:=by have:=hF.lt;have:=hF.ge;omega
 have lV:=hF.len;obtain⟨Ls,EC⟩:∃Ls,Ls=fY.length:=⟨_,rfl⟩;obtain⟨sv,sc,nR⟩:∃sv sc,v4=.slice sv Ls sc:=by
  exact Tq
 have c5:W.cell? ⟨FB,5,none⟩=some (.slice sv Ls sc):=Fw;have BH:(Ls:Int)≤100000:=af;have HF:=hid hF;have HN:=hid hN;have HL:=hid EC;have Hp:=hid hp;clear hF hN aX Fi ct aG ke EC nR hp;generalize ns[n]=x at*;have Hf:=hid hf;clear hf;go_enter Tryz.func215,Tryz.ntmps215;go_wp2;go_loopw [7] (fun iv wr=>∃(j:Nat) (iz:Int),j≤Ls∧iv=.int .i64 iz∧iz=(j:Int) - 1∧Below W.heap.size W wr∧Hid (cr (fY.take j).flatten x.text.toList=cr fY.flatten x.text.toList)) (fun iv _=>(intOf iv+1).toNat)
 case atStart=>exact⟨Ls,(Ls:Int) - 1,Nat.le_refl _,by first|rfl|go_num,rfl,Ts,hid (by rw [HL.out,List.take_length])⟩
 case round=>
  obtain⟨j,iz,hj,rfl,hiz,hB,hJ⟩:=hrel;have zj:=HF.out.later hB;have vz:=hid zj;have HB:=hid hB;rcases j with _|j
  ·exfalso;have h1:=hJ.out;have h2:cr fY.flatten x.text.toList=some (vv:Int):=Hf.out;rw [h2] at h1;cases h1
  ·have pE:j<fY.length:=by have:=HL.out;omega
   obtain rfl:iz=(j:Int):=af;have OU:j<aB.length:=af;have hJ2:=hJ.out;rw [qp pE] at hJ2;have Fj:=zj.maps j aB[j] fY[j] (List.getElem?_eq_getElem OU) (List.getElem?_eq_getElem pE);obtain⟨g4,c4,hv4,hg4,Nc,agG,agH⟩:=tN zj.blocks OU ak;rw [List.getElem?_map,List.getElem?_eq_getElem OU] at Nc;simp only [Option.map_some] at Nc;obtain⟨cz,hcz,hlk⟩:=Fj.look vT;generalize aB[j]=mb at*;have d0:wr.cell? ⟨FB,0,none⟩=some (.slice (some ⟨b,o,none⟩) ns.length c):=by rw [←Hp.out];exact vz.out.cell 0
   have d5:wr.cell? ⟨FB,5,none⟩=some (.slice (some ⟨g4,0,none⟩) Ls c4):=by rw [HL.out,←lV,←hv4];exact vz.out.cell 5
   have k1w:=cell_later HB.out k1;have j0:(0:Int)≤(j:Int):=af;have j1:(j:Int)<(Ls:Int):=nw;clear hB Fj hiz hv4;cases hfj:cr fY[j] x.text.toList with
   |none=>
    rw [hfj,Option.none_or] at hJ2;have HJ2:=hid hJ2;rw [hfj] at hlk;simp only [Option.isSome_none] at hlk;clear hcz hJ hJ2 zj hfj;exact Tt
   |some v=>
    have hv:v=(vv:Int):=by
     rw [hfj,Option.some_or] at hJ2;have h2:cr fY.flatten x.text.toList=some (vv:Int):=Hf.out;rw [h2] at hJ2;exact Option.some.inj hJ2
    have hcv:=hcz v hfj;rw [hfj,hcv,hv] at hlk;simp only [Option.isSome_some] at hlk;clear hcz hJ hJ2 zj hfj hcv hv;have BQ:n<s.uses.length:=by rw [hi.uses];exact hn
    obtain⟨gu,cu,Al,ahM,cun,amx,Tu,Tv⟩:=ints_at (vz.out.rows.rows 0 _ _ rfl rfl) BQ;obtain⟨gv,vc,Xp,amy,Xq,fvj⟩:=Tm vz.out.vars xA;have d1:wr.cell? ⟨FB,1,none⟩=some (.slice (some ⟨gv,0,none⟩) s.vars.length vc):=by rw [←Xp];exact vz.out.cell 1
    have d2:wr.cell? ⟨FB,2,none⟩=some (.slice (some ⟨gu,0,none⟩) s.uses.length cu):=by rw [←Al];exact vz.out.cell 2
    have nl1:(n:Int)<(s.uses.length:Int):=af;have v0':(0:Int)≤(vv:Int):=af;have v1':(vv:Int)<(s.vars.length:Int):=af;have hFu:¬FB=gu:=fun e=>fF (vz.out.rows.rows 0 _ _ rfl rfl) vz.out.heap aj (by rw [Al,e];rfl)
    have huF:¬gu=FB:=fun e=>hFu e.symm
    have hFv:¬FB=gv:=fun e=>fF vz.out.vars vz.out.heap aj (by rw [Xp,e];rfl)
    have hvF:¬gv=FB:=fun e=>hFv e.symm
    have huv:¬gu=gv:=fun e=>qq (vz.out.rows.rows 0 _ _ rfl rfl) vz.out.vars gu (by rw [Al];rfl) (by rw [Xp,e];rfl)
    have hvu:¬gv=gu:=fun e=>huv e.symm
    have e1:wr.cell? ⟨gv,vv*4+1,none⟩=some (.int .i64 s.vars[vv].fn):=Xq 1 aj;have e2:wr.cell? ⟨gv,vv*4+2,none⟩=some (.bool s.vars[vv].taken):=Xq 2 aj;have f0v:=fvj (vv*4+2);have Tw:bT s n vv fn false={s with uses:=s.uses.set n (vv:Int),vars:=s.vars.set vv {s.vars[vv] with taken:=s.vars[vv].taken||(s.vars[vv].fn !=fn)}}:=by
     unfold bT;rw [Int.toNat_natCast,Int.toNat_natCast,sR _ _ xA];simp only [Bool.or_false]
    have Hgu:=hid Al;have Hgv:=hid Xp;have vE:∀nq,bF B FB p c ns.length mm N ((((wr.drewN nq).setCell ⟨gu,n,none⟩ (.int .i64 vv))).setCell ⟨gv,vv*4+2,none⟩ (.bool (s.vars[vv].taken||(s.vars[vv].fn !=fn)))) (bT s n vv fn false) fY aB v0 v1 v2 v3 v4∧aK B W ((((wr.drewN nq).setCell ⟨gu,n,none⟩ (.int .i64 vv))).setCell ⟨gv,vv*4+2,none⟩ (.bool (s.vars[vv].taken||(s.vars[vv].fn !=fn)))) (aJ FB mm aB v0 v1 v2 v3 v4) (aJ FB mm aB v0 v1 v2 v3 v4):=by
     intro nq;have hb2:Below W.heap.size W (wr.drewN nq):=HB.out.trans ((below_drewN wr nq).mono HB.out.size);have hq:=HF.out.later hb2;have yX:=hq.iR Hgu.out BQ (vv:Int);refine⟨by rw [Tw];exact yX.xN Hgv.out xA aj _ _ rfl,(aK.fresh hb2 pq).trans ((aK.row ahM (by unfold aJ;rw [Hgu.out];simp [Value.ownBlock]) (Nat.le_trans pq hb2.size)).trans (aK.row amy (by unfold aJ;rw [Hgv.out];simp [Value.ownBlock]) (by simpa using Nat.le_trans pq hb2.size)))⟩
    have vE:=hid vE;clear Tw Al Xp Xq;generalize s.vars[vv].taken=tk at*;generalize s.vars[vv].fn=fv at*;cases tk with
    |true=>
     go_wp2;go_quiet (fail);go_wp2;go_ret;refine⟨⟨gv,vc,Hgv.out,xA, ?_⟩, ?_⟩
     ·rfl
     ·exact vE.out _
    |false=>
     by_cases Cg:fv=fn
     ·subst Cg;have hbf:((fn:Int) !=(fn:Int))=false:=ak;rw [hbf] at vE;exact Tx
     ·have arF:¬(fn:Int)=fv:=fun e=>Cg e.symm
      have N1:(fv !=(fn:Int))=true:=by simpa using Cg
      rw [N1] at vE;exact Tx
end
end Go.Proofs.YtjchnliaglecoaaGreatDoor

/- A part of the proof. Conditions: none. -/
set_option maxRecDepth 100000
set_option maxHeartbeats 8000000
namespace Go.Proofs.YtjchnliaglecoaaGreatDoor
open Go Go.RowKit Go.Nodes Go.Maps Go.WideMaps Go.ChangeShapes
theorem BF:Go.Maps.Keyed Tryz.prog 3:=Go.Maps.int_keyed Tryz.underlying3
theorem Lt (x:Int):WideAt.IsKeyLit (.int .i64 x):=by unfold WideAt.IsKeyLit;trivial
theorem fe.put {w w':World} {mb k:Nat} {D:DataW Unit} {nm:ey} {t:List UInt8} {v:Int} (hD:tR w mb k D) (hk:k≤nm.length)
  (hs:∀t:List UInt8,Maps.has D (.string t)=(cr nm t).isSome∧∀v,cr nm t=some v→D.atKey (.string t) (.lit (.int .i64 0))=.lit (.int .i64 v))
  (h':tR w' mb (k+1) (D.put (.string t) (.lit (.int .i64 v)))):fe w' mb (nm++[(t,v)]):=by
 refine⟨k+1,_,h',by simp;omega,fun u=>?_⟩;rw [yg];by_cases e:u=t
 ·subst e;rw [Go.Maps.has_put_same hD.isMap (xI u),Go.Maps.atKey_put_same hD.isMap (xI u)];simp only [beq_self_eq_true,if_true,Option.isSome_some];exact⟨trivial,fun v' h=>by cases h;rfl⟩
 ·have e2:¬(t==u)=true:=fun h=>e (eq_of_beq h).symm
  rw [Go.Maps.has_put_other (fun h=>e (by cases h;rfl)),Go.Maps.atKey_put_other (fun h=>e (by cases h;rfl)),if_neg e2];exact hs u
theorem sD.put {w w':World} {mb k N:Nat} {D:DataW Unit} {l:List Int} {fn:Nat} {x:Int} (hD:tW w mb k D) (hk:k≤N) (hfn:fn<l.length)
  (hs:∀fn:Nat,D.atKey (.int .i64 fn) (.lit (.int .i64 0))=.lit (.int .i64 (l.getD fn 0)))
  (h':tW w' mb (k+1) (D.put (.int .i64 fn) (.lit (.int .i64 x)))):sD w' mb (l.set fn x) (N+1):=by
 refine⟨k+1,_,h',by omega,fun u=>?_⟩;by_cases e:u=fn
 ·subst e;rw [Go.Maps.atKey_put_same hD.isMap (Lt u)];simp [List.getD,hfn]
 ·rw [Go.Maps.atKey_put_other (fun h=>e (by injection h with h1 h2;omega)),hs u];have e2:¬fn=u:=fun h=>e h.symm
  simp [List.getD,List.getElem?_set,e2]
theorem nr {x:Int} (h0:-9223372036854775808≤x) (h1:x≤9223372036854775807):IntKind.i64.wrap x=x:=by
 simp [IntKind.wrap,IntKind.signed,IntKind.bits];omega
theorem bF.congr {B FB c L mm N:Nat} {p:Option Addr} {w:World} {s s':Fs} {bl:List ey} {aB:List Nat} {v0 v1 v2 v3 v4:Value} (h:bF B FB p c L mm N w s bl aB v0 v1 v2 v3 v4) (e1:s'.vars=s.vars) (e2:s'.uses=s.uses) (e3:s'.funcs=s.funcs) (e4:s'.cF=s.cF) (e5:s'.many=s.many):
  bF B FB p c L mm N w s' bl aB v0 v1 v2 v3 v4:=
 ⟨h.ge,h.heap,by rw [e2,e3,e4];exact h.rows,by rw [e1];exact h.vars,h.blocks,h.len,h.maps,h.jY,h.nodup,by rw [e5];exact h.many,h.ju,h.jZ⟩
theorem Nl {s:Fs} {v:Int} (h1:v<s.vars.length) (h0:0≤v) (s':Fs) (hs:∃ys,s'.vars=s.vars++ys):fP s' v=fP s v:=by
 obtain⟨ys,hs⟩:=hs;unfold fP;rw [hs,List.getElem?_append_left af]
theorem eu.new {ns:List Nd} {L:Nat} {s:Fs} {bl:List ey} {nm:ey} (h:eu ns s (bl++[nm])) (hi:cN L s) (n fn:Int):eu ns (kD (bY s fn) n fn) (bl++[nm++[(dS ns n,(s.vars.length:Int))]]):=by
 have hf:(bl++[nm++[(dS ns n,(s.vars.length:Int))]]).flatten=(bl++[nm]).flatten++[(dS ns n,(s.vars.length:Int))]:=ak;refine⟨?_,fun x hx=>?_⟩
 ·rw [hf,List.map_append,←h.seen];rfl
 ·rw [hf,List.mem_append] at hx;rcases hx with hx|hx
  ·rw [←h.text x hx];have hm:=hi.seen x.2 (by rw [h.seen];exact List.mem_map_of_mem hx);exact congrArg _ (Nl hm.2 hm.1 _ ⟨[⟨n,fn,false,false⟩],rfl⟩)
  ·rw [List.mem_singleton] at hx;subst hx;show dS ns (fP _ (s.vars.length:Int))=dS ns n;congr 1;unfold fP kD bY;simp
def BG (E:ey→Prop) (B FB:Nat) (p:Option Addr) (c:Nat) (ns:List Nd) (mm:Nat) (aB:List Nat) (O:Nat→Prop) (W:World) (bl:List ey) (nm:ey) (s1:Fs) (e:Ending) (w':World):Prop:=
 (s1.e=0→e=.returned (.tuple #[])∧∃ext v0 v1 v2 v3 v4,E ext∧bF B FB p c ns.length mm s1.vars.length w' s1 (bl++[nm++ext]) aB v0 v1 v2 v3 v4∧eu ns s1 (bl++[nm++ext])∧aK B W w' O (aJ FB mm aB v0 v1 v2 v3 v4))∧
 (s1.e≠0→e=.panicked (kG s1.bE s1.e)∧aK B W w' O (fun g=>O g∨W.heap.size≤g))
abbrev cE:=BG (fun _=>True)
theorem aK.weak {B:Nat} {w w':World} {O O':Nat→Prop} (h:aK B w w' O O'):aK B w w' O (fun g=>O g∨w.heap.size≤g):=⟨h.below,h.keep,fun _ h=>h⟩
theorem Jn {B FB mm:Nat} {p:Option Addr} {c:Nat} {ns:List Nd} {W0 W:World} {s:Fs} {bl:List ey} {nm:ey} {aB:List Nat} {v0 v1 v2 v3 v4:Value} (hF:bF B FB p c ns.length mm s.vars.length W s (bl++[nm]) aB v0 v1 v2 v3 v4) (hi:cN ns.length s) (fy:eu ns s (bl++[nm])) (hN:ay W0 p ns) (h0:W0.heap.size≤B) (hb0:Below B W0 W)
  (n fn:Nat) (hn:n<ns.length) (hfn:fn<s.funcs.length) (hsz:s.vars.length≤100000) (hfm:fn≤100000) (hbl:bl.length≤100000) (he:s.e=0):
  Calls Tryz.prog 220 #[.pointer (some ⟨FB,0,none⟩),.int .i64 n,.int .i64 fn] W (BG (fun ext=>ext=[(dS ns n,(s.vars.length:Int))]) B FB p c ns mm aB (aJ FB mm aB v0 v1 v2 v3 v4) W bl nm (cY ns s n fn)):=by
 have Q2:=trivial;exact adf
end Go.Proofs.YtjchnliaglecoaaGreatDoor
