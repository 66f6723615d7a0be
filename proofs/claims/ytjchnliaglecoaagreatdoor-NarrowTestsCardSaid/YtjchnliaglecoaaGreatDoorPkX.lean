/- A part of the proof. Conditions: none. -/
import Derived.Laws.AppendOwnNone
import Derived.Test.YtjchnliaglecoaaGreatDoorZz
import Derived.Test.YtjchnliaglecoaaGreatDoorPiX
import Derived.RangeFuncNested
import Derived.RangeFuncBound
import Derived.RangeFuncCalls
import Derived.RangeFuncLeaves
import Derived.RangeFuncFrom
import Derived.RangeFuncBox
import Derived.Shelf.Abstract
import Derived.Shelf.RegionOpen
import Derived.OwnWalkIn
import Derived.TacticsInMore
import Derived.LoopNIn
import Derived.LoopIn
set_option linter.unusedVariables false
set_option linter.unusedSimpArgs false
set_option maxRecDepth 100000
set_option maxHeartbeats 8000000
namespace Go.Proofs.YtjchnliaglecoaaGreatDoor
open Go Go.RowKit Go.Nodes Go.Am
theorem DX {ns:List Nd} (ht:Tree ns) {n:Nat} (hn:n<ns.length) (hk:aq ns (n:Int)=28):0<(ax ns (n:Int)).length:=by
 exact R6
theorem jQ {ns:List Nd} (ht:Tree ns) {n:Nat} (hn:n<ns.length) (hc:aq ns (n:Int)=27∨aq ns (n:Int)=29∨aq ns (n:Int)=30):2≤(ax ns (n:Int)).length:=by
 obtain⟨x,hx,h1,h2,hv⟩:=ic ht hn;have hf:=hv.fits;have hl:(cR ns x.kids).length=x.kids.length:=by simp [cR]
 rw [h2,←hl];rw [h1] at hc;rcases hc with h|h|h
 all_goals
  rw [h] at hf;have:=uh hf aj;exact Nat.le_trans aj this
theorem LZ (ns:List Nd) (ha:dD ns):∀(l:List Nd) (n:Nat) (u v:List Bool),ns.drop n=l→n≤ns.length→u.length=ns.length→qo (wt ns) u n≤n→fh ns l n u=(none,v)→∀m,n≤m→m<ns.length→wt ns m≤m+1
 |[],n,u,v,hd,hl2,hl,hs,h,m,h1,h2=>by
  have h3:=List.drop_eq_nil_iff.1 hd;omega
 |y::l,n,u,v,hd,hl2,hl,hs,h,m,h1,h2=>by
  unfold fh at h;have hy:ns[n]?=some y:=by rw [←List.head?_drop,hd];rfl
  have hn:n<ns.length:=(List.getElem?_eq_some_iff.1 hy).1;cases NX:eF n y.kids u with
  |none=>rw [NX] at h;cases h
  |some u2=>
   rw [NX] at h;simp only at h;split at h
   ·have h3:=vC (wt ns) n y.kids u u2 af NX;have h4:=LK ha n;rw [sQ hy] at h4;by_cases e:n=m
    ·subst e;omega
    ·refine LZ ns ha l (n+1) u2 v (by rw [←List.drop_drop,hd];rfl) hn (by rw [qI n _ _ _ NX,hl]) ?_ h m af h2;unfold qo;split<;>omega
   ·cases h
theorem LN {ns:List Nd} (h:(bg ns).2=0):∀m,m<ns.length→wt ns m≤ns.length:=by
 have ha:=(taken h).1;unfold bg at h;split at h
 ·simp at h
 ·rename_i v hs;intro m hm;have:=LZ ns ha ns 0 _ v rfl (Nat.zero_le _) ak (by simp [qo]) hs m (Nat.zero_le _) hm;omega
def eH (l:List (Int × Int)):List Value:=(l.map fun x=>[Value.int .i64 x.1,Value.int .i64 x.2]).flatten
theorem N2 (l:List (Int × Int)):(eH l).length=l.length*2:=by
 induction l with
 |nil=>rfl
 |cons x l ih=>simp [eH] at ih ⊢;omega
theorem Ch (a b:List (Int × Int)):eH (a++b)=eH a++eH b:=by simp [eH]
theorem Ka (l:List (Int × Int)):∀u∈eH l,∃x:Int,u=.int .i64 x:=fun u hu=>by
 simp only [eH,List.mem_flatten,List.mem_map] at hu;obtain⟨r,⟨x,_,rfl⟩,hu⟩:=hu;simp at hu;rcases hu with rfl|rfl
 ·exact⟨_,rfl⟩
 ·exact⟨_,rfl⟩
structure fT (B:Nat) (w:World) (v:Value) (l:List (Int × Int)):Prop where
 row:w.ownsRow B 58 2 v l.length (eH l)
 nil:l=[]→v=.slice none 0 0
theorem fT.later {B:Nat} {w w':World} {v:Value} {l:List (Int × Int)} (h:fT B w v l) (hb:Below w.heap.size w w'):fT B w' v l:=⟨bR h.row hb,h.nil⟩
theorem fT.mono {B B':Nat} {w:World} {v:Value} {l:List (Int × Int)} (h:fT B w v l) (hb:B'≤B):fT B' w v l:=⟨nK h.row hb,h.nil⟩
theorem fT.empty (B:Nat) (w:World):fT B w (.slice none 0 0) []:=⟨⟨rfl,.inl ⟨rfl,rfl⟩⟩,fun _=>rfl⟩
theorem fT.one {B:Nat} {w:World} (x y:Int) (hB:B≤w.heap.size):fT B (w.alloc (.cells #[.int .i64 x,.int .i64 y] 58)) (.slice (some ⟨w.heap.size,0,none⟩) 1 1) [(x,y)]:=
 ⟨⟨rfl,.inr ⟨w.heap.size,1,_,rfl,hB,heap_alloc_new _ _,Nat.le_refl _,by unfold maxLen;omega,rfl,rfl⟩⟩,fun h=>nomatch h⟩
def fM (W:World) (l:List (Int × Int)) (e:Ending) (w':World):Prop:=∃v,e=.returned v∧Below W.heap.size W w'∧fT W.heap.size w' v l
theorem fH {ns:List Nd} (ht:Tree ns) (vs:List Vr) (us:List Int):∀(k n:Nat) (yes:Bool),n<ns.length→(aW ns vs us k n yes).length≤wt ns n
 |0,n,yes,_=>Nat.zero_le _
 |k+1,n,yes,hn=>by
  have hw:=cM ht n;have hk:=bH ht (n:=(n:Int)) af;have one:∀x:Int × Int,[x].length≤wt ns n:=fun x=>by simp;exact fQ ht.ahead n
  have two:∀(yes:Bool),2≤(ax ns (n:Int)).length→(aW ns vs us k (n9 ns n) yes++aW ns vs us k (uU ns n) yes).length≤wt ns n:=fun yes h2=>by
   unfold n9 uU;have h0l:0<(ax ns (n:Int)).length:=af;have rY:1<(ax ns (n:Int)).length:=af;rw [aZ h0l,aZ rY,List.length_append];have e1:=eB (ns:=ns) (ax ns (n:Int)) 1 rY;have e0:fV ns ((ax ns (n:Int)).take 1)=wt ns ((ax ns (n:Int))[0]).toNat:=by rw [List.take_add_one,List.getElem?_eq_getElem h0l];simp [fV]
   have k0:=hk _ (List.getElem_mem h0l);have k1:=hk _ (List.getElem_mem rY);generalize (ax ns (n:Int))[0]=a at*;generalize (ax ns (n:Int))[1]=b at*;obtain⟨a',rfl⟩:∃a':Nat,a=a':=⟨a.toNat,by omega⟩;obtain⟨b',rfl⟩:∃b':Nat,b=b':=⟨b.toNat,by omega⟩;have i0:=fH ht vs us k a' yes af;have i1:=fH ht vs us k b' yes af;simp only [Int.toNat_natCast] at*;omega
  unfold aW;split
  ·split
   ·exact Nat.zero_le _
   ·exact one _
  split
  ·rename_i arG;split
   ·have h1:=DX ht hn arG;unfold n9;rw [aZ h1];have k0:=hk _ (List.getElem_mem h1);have e0:=eB (ns:=ns) (ax ns (n:Int)) 0 h1;generalize (ax ns (n:Int))[0]=a at*;obtain⟨a',rfl⟩:∃a':Nat,a=a':=⟨a.toNat,by omega⟩;have i0:=fH ht vs us k a' (!yes) af;simp only [Int.toNat_natCast] at*;omega
   ·exact Nat.zero_le _
  split
  ·rename_i arH;split
   ·exact two yes (jQ ht hn (.inr (.inl arH)))
   ·exact Nat.zero_le _
  split
  ·rename_i arI;split
   ·exact Nat.zero_le _
   ·exact two yes (jQ ht hn (.inr (.inr arI)))
  split
  ·split
   ·exact Nat.zero_le _
   split
   ·exact Nat.zero_le _
   ·exact one _
  ·exact Nat.zero_le _
theorem om (ns:List Nd) (vs:List Vr) (us:List Int) (a b:Int):bits .andNot .i64 127 (dN ns vs us a b).2=127 - (dN ns vs us a b).2:=by
 have h:∀k:Int,(k=0∨k=1∨k=2∨k=4∨k=8∨k=16∨k=32∨k=64)→bits .andNot .i64 127 k=127 - k:=by
  intro k hk;rcases hk with rfl|rfl|rfl|rfl|rfl|rfl|rfl|rfl<;>decide+kernel
 refine h _ ?_;unfold dN;split
 ·exact .inr (.inl rfl)
 ·split
  ·split
   ·exact P0 _
   ·exact .inl rfl
  ·exact .inl rfl
def zA (LS AG KS:Value) (B8 bk ok:Nat) (z0 z1 rv rk:Int):Nat→World→Value→Prop
 |0,w,v=>v=LS
 |1,w,v=>v=AG
 |2,w,v=>v=.pointer (some ⟨B8,2,none⟩)
 |3,w,v=>v=KS
 |4,w,v=>v=.pointer (some ⟨bk,ok,none⟩)
 |5,w,v=>v=.int .i64 z0
 |6,w,v=>v=.pointer (some ⟨B8,2,none⟩)
 |7,w,v=>v=KS
 |8,w,v=>v=.pointer (some ⟨bk,ok+1,none⟩)
 |9,w,v=>v=.int .i64 z1
 |10,w,v=>v=.tuple #[.int .i64 rv,.int .i64 rk]
 |11,w,v=>v=.tuple #[.int .i64 rv,.int .i64 rk]
 |12,w,v=>v=.int .i64 rv
 |13,w,v=>v=.int .i64 rk
 |14,w,v=>v=.int .i64 rv
 |_,w,v=>v=.int .i64 rk
theorem uo {LS AG KS:Value} {B8 bk ok:Nat} {z0 z1 rv rk:Int}:∀(k:Nat) (w w':World) (v:Value),Below w.heap.size w w'→zA LS AG KS B8 bk ok z0 z1 rv rk k w v→zA LS AG KS B8 bk ok z0 z1 rv rk k w' v:=by
 intro k w w' v hb h;unfold zA at*;exact yB
def uq (LS AG KS:Value) (B8 bk ok:Nat) (z0 z1 rv rk:Int):Nat→World→Value→Prop
 |0,w,v=>v=LS
 |1,w,v=>v=AG
 |2,w,v=>v=.pointer (some ⟨B8,2,none⟩)
 |3,w,v=>v=KS
 |4,w,v=>v=.pointer (some ⟨bk,ok+1,none⟩)
 |5,w,v=>v=.int .i64 z1
 |6,w,v=>v=.pointer (some ⟨B8,2,none⟩)
 |7,w,v=>v=KS
 |8,w,v=>v=.pointer (some ⟨bk,ok,none⟩)
 |9,w,v=>v=.int .i64 z0
 |10,w,v=>v=.tuple #[.int .i64 rv,.int .i64 rk]
 |11,w,v=>v=.tuple #[.int .i64 rv,.int .i64 rk]
 |12,w,v=>v=.int .i64 rv
 |13,w,v=>v=.int .i64 rk
 |14,w,v=>v=.int .i64 rv
 |_,w,v=>v=.int .i64 rk
theorem rF {LS AG KS:Value} {B8 bk ok:Nat} {z0 z1 rv rk:Int}:∀(k:Nat) (w w':World) (v:Value),Below w.heap.size w w'→uq LS AG KS B8 bk ok z0 z1 rv rk k w v→uq LS AG KS B8 bk ok z0 z1 rv rk k w' v:=by
 intro k w w' v hb h;unfold uq at*;exact yB
theorem Tryz.Tz:(Tryz.prog.info? 58).map (fun i=>(i.zero,i.size,i.bytes))=some (some (.agg #[.int .i64 0,.int .i64 0]),2,16):=by kernel_rfl
def zB (LS AG KS:Value) (B8 bk ok:Nat) (z0 z1 rv rk:Int) (yy:Bool) (NB:Nat) (l0 l1:List (Int × Int)):Nat→World→Value→Prop
 |0,w,v=>v=LS
 |1,w,v=>v=AG
 |2,w,v=>v=.pointer (some ⟨B8,2,none⟩)
 |3,w,v=>v=KS
 |4,w,v=>v=.pointer (some ⟨bk,ok,none⟩)
 |5,w,v=>v=.int .i64 z0
 |6,w,v=>v=.bool yy
 |7,w,v=>fT NB w v l0
 |8,w,v=>v=LS
 |9,w,v=>v=AG
 |10,w,v=>v=.pointer (some ⟨B8,2,none⟩)
 |11,w,v=>v=KS
 |12,w,v=>v=.pointer (some ⟨bk,ok+1,none⟩)
 |13,w,v=>v=.int .i64 z1
 |14,w,v=>v=.bool yy
 |_,w,v=>fT NB w v l1
theorem ur {LS AG KS:Value} {B8 bk ok:Nat} {z0 z1 rv rk:Int} {yy:Bool} {NB:Nat} {l0 l1:List (Int × Int)}:∀(k:Nat) (w w':World) (v:Value),Below w.heap.size w w'→zB LS AG KS B8 bk ok z0 z1 rv rk yy NB l0 l1 k w v→zB LS AG KS B8 bk ok z0 z1 rv rk yy NB l0 l1 k w' v:=by
 intro k w w' v hb h;unfold zB at*;split at h<;>first|exact h|exact h.later hb
def qs (p:Option Addr) (c:Nat) (ns:List Nd) (v0 v1 v2 v3:Value) (s:Fs) (W0:World) (k q:Nat):Prop:=∀(yes:Bool) (W:World),Below W0.heap.size W0 W→Calls Tryz.prog 34 #[.slice p ns.length c,.agg #[v0,v1,v2,v3],.int .i64 q,.bool yes] W (fM W (aW ns s.vars s.uses k q yes))
theorem N3 (p:Option Addr) (c:Nat) (ns:List Nd) (ht:Tree ns) (v0 v1 v2 v3:Value) (s:Fs) (hf:Fit ns s) (W:World) (hN:ay W p ns) (hs:nc W v0 v1 v2 v3 s) (k n:Nat) (kU:n≤k) (hn:n<ns.length) (ZQ:wt ns n≤5000) (IH:∀q,q<n→wt ns q≤5000→qs p c ns v0 v1 v2 v3 s W k q) (az:aq ns (n:Int)=17) (yes:Bool):
  Calls Tryz.prog 34 #[.slice p ns.length c,.agg #[v0,v1,v2,v3],.int .i64 n,.bool yes] W (fM W (aW ns s.vars s.uses (k+1) n yes)):=by
 have ZR:=trivial;exact TA
theorem N4 (p:Option Addr) (c:Nat) (ns:List Nd) (ht:Tree ns) (v0 v1 v2 v3:Value) (s:Fs) (hf:Fit ns s) (W:World) (hN:ay W p ns) (hs:nc W v0 v1 v2 v3 s) (k n:Nat) (kU:n≤k) (hn:n<ns.length) (ZQ:wt ns n≤5000) (IH:∀q,q<n→wt ns q≤5000→qs p c ns v0 v1 v2 v3 s W k q) (az:aq ns (n:Int)=28) (yes:Bool):
  Calls Tryz.prog 34 #[.slice p ns.length c,.agg #[v0,v1,v2,v3],.int .i64 n,.bool yes] W (fM W (aW ns s.vars s.uses (k+1) n yes)):=by
 have ZT:=trivial;exact TA
theorem aeF_ {p:Prop} (h:p:=by
 intro ca w1 hb hd hs aT bp;have r63:fT W.heap.size w1 (ca.tmps.getD 63 undef) l0:=aT 7 _ 63 rfl rfl;have r71:fT W.heap.size w1 (ca.tmps.getD 71 undef) l1:=aT 15 _ 71 rfl rfl;have bf:=Am.bC hd hs bp;simp only [List.foldl_cons,List.foldl_nil] at bf;generalize ca.tmps.getD 63 undef=y63 at bf r63;generalize ca.tmps.getD 71 undef=y71 at bf r71;obtain⟨yf,jL⟩:∃y:Nat→Value,∀t,ca.tmps.getD t undef=y t:=⟨_,fun _=>rfl⟩;simp only [jL] at bf;clear jL;subst bf;simp only [List.setIfInBounds_toArray,List.set_cons_succ,List.set_cons_zero];have rj:=hid (r8.out.trans (hb.mono r8.out.size));clear hb hd hs aT bp;simp only [Am.gI];obtain⟨Yb,m63,d63,e63⟩:∃a m d,y63=.slice a m d:=by
  rcases r63.row.2 with⟨e1,_⟩|⟨g,cap,cur,e1,_⟩
  ·exact⟨_,_,_,e1⟩
  ·exact⟨_,_,_,e1⟩
 have amK:=rj.out.size;have o9:∀k,y63.ownBlock=some k→W.heap.size≤k:=fun k hk=>(r63.row.lt k hk).1
 cases l1 with
 |nil=>
  have e71:=r71.nil rfl;subst e71;have R63:=hid r63;have amL:=hid o9;subst e63;clear r63 r71 o9 zT0 zT1 zT2;refine wpList_append_own_none rfl _ _ 32 rfl W.heap.size 58 iT 2 Tryz.underlying32 hiT _ l0.length (eH l0) rfl R63.out.row rfl ?_;refine wpList_nil ?_
  try simp only [Am.gI]
  go_wp2;go_ret;exact⟨_,rfl,rj.out,by rw [List.append_nil];exact R63.out⟩
 |cons x l1=>
  obtain⟨g7,cp7,ayl,e71,hg7,hh7,hn7,hm7,arN,arO⟩:∃g cap cur,y71=.slice (some ⟨g,0,none⟩) (x::l1).length cap∧W.heap.size≤g∧w1.heap[g]?=some (.cells cur 58 (0,0))∧(x::l1).length≤cap∧cap≤maxLen∧cur.size=cap*2∧cur.toList.take ((x::l1).length*2)=eH (x::l1):=by
   rcases r71.row.2 with⟨e1,e2⟩|⟨g,cap,cur,e1,h⟩
   ·simp at e2
   ·exact⟨g,cap,cur,e1,h⟩
  have Kf:∀j u,(eH (x::l1))[j]?=some u→w1.cell? ((⟨g7,0,none⟩:Addr).add j)=some u:=by
   rw [e71] at r71;exact fun j u hj=>r71.row.cells (g:=g7) rfl j u hj
  have F0:(eH (x::l1)).length=(x::l1).length*2:=N2 _;have uM:∀u∈eH (x::l1),u.oneCell'=true:=fun u hu=>by
   obtain⟨y,rfl⟩:=Ka _ u hu;rfl
  have dL:0<(x::l1).length:=ak;have ahX:eH (l0++x::l1)=eH l0++eH (x::l1):=Ch _ _;have TG:(l0++x::l1).length=l0.length+(x::l1).length:=List.length_append;obtain⟨news,hnews⟩:∃news,news=x::l1:=⟨_,rfl⟩;have amM:=hid hnews;rw [←hnews] at Kf F0 uM dL ahX TG hb1 e71 ⊢;have arP:=hid ahX;have amN:=hid TG;have R63:=hid r63;have amL:=hid o9;have Hc7:=hid Kf;have Ho7:=hid uM;have tu:l0++news≠[]:=by rw [hnews];simp
  have NC:=hid tu;obtain⟨nn,ahY⟩:∃nn,nn=news.length:=⟨_,rfl⟩;rw [←ahY] at F0 dL hb1 e71;have arQ:=hid ahY;subst e71;rw [e63];have amO:=hid e63;clear r63 r71 o9 Kf uM ahX TG hnews tu ahY hh7 arO arN hm7 hn7 e63;refine cT _ rfl _ _ 32 rfl W.heap.size 58 iT _ 2 16 Tryz.underlying32 hiT zT0 zT1 zT2 rfl aj (.slice Yb m63 d63) l0.length (eH l0) rfl (by rw [←amO.out];exact R63.out.row) ⟨g7,0,none⟩ nn cp7 dL (eH news) rfl F0 Hc7.out Ho7.out lf af amK ?_;intro v' w2 hrow hgr vp;obtain⟨av,nv,cv,rfl⟩:∃a n c,v'=.slice a n c:=by
   rcases hrow.2 with⟨e1,_⟩|⟨g,cap,cur,e1,_⟩
   ·exact⟨_,_,_,e1⟩
   ·exact⟨_,_,_,e1⟩
  have Ay:=hid (show Below W.heap.size W w2∧fT W.heap.size w2 (.slice av nv cv) (l0++news) from⟨rj.out.grown hgr amK (fun k hk=>amL.out k (by rw [amO.out];exact hk)),⟨by rw [amN.out,arP.out,←arQ.out];exact hrow,fun h=>absurd h NC.out⟩⟩);clear hrow hgr vp;refine wpList_nil ?_
  try simp only [Am.gI]
  go_wp2;go_ret;exact⟨.slice av nv cv,rfl,by rw [←amM.out];exact Ay.out⟩
 ):p:=h
theorem N5 (p:Option Addr) (c:Nat) (ns:List Nd) (ht:Tree ns) (v0 v1 v2 v3:Value) (s:Fs) (hf:Fit ns s) (W:World) (hN:ay W p ns) (hs:nc W v0 v1 v2 v3 s) (k n:Nat) (kU:n≤k) (hn:n<ns.length) (ZQ:wt ns n≤5000) (IH:∀q,q<n→wt ns q≤5000→qs p c ns v0 v1 v2 v3 s W k q) (az:aq ns (n:Int)=29) (yes:Bool):
  Calls Tryz.prog 34 #[.slice p ns.length c,.agg #[v0,v1,v2,v3],.int .i64 n,.bool yes] W (fM W (aW ns s.vars s.uses (k+1) n yes)):=by
 obtain⟨b,o,hp,bO,ct,aG,k0,k1,k2,k3⟩:=bh hN hn;have cD:=aL ct;have ke:dS ns (n:Int)=(ns[n]).text.toList:=ri;have bP:ax ns (n:Int)=(ns[n]).kids:=iA;have cO:=bH ht (n:=(n:Int)) af;rw [bP] at cO;obtain⟨R,hR⟩:∃R,R=aW ns s.vars s.uses (k+1) n yes:=⟨_,rfl⟩;rw [←hR];unfold aW n9 uU at hR;rw [cD,ke,bP] at hR;have a0:(0:Int)≤(n:Int):=af;have a1:(n:Int)<(ns.length:Int):=af;have lN:=hid cO;have cH:=hid aG;have HR:=hid hR;have je:=hid IH;have kj:=hid ht;have Hf:=hid hf;have Hn:Hid (∀(n:Nat),n<ns.length→∀w1,Below W.heap.size W w1→Calls Tryz.prog 77 #[.slice p ns.length c,.agg #[v0,v1,v2,v3],.int .i64 n] w1 fun e w'=>e=.returned (.int .i64 (fL ns s.vars s.uses n))∧Below w1.heap.size w1 w'):=hid (fun n hn w1 hb=>Jv w1 p c ns (aF hb hN) v0 v1 v2 v3 s (hs.later hb) hf n hn);have Hq:Hid (∀(a d:Nat),a<ns.length→d<ns.length→∀w1,Below W.heap.size W w1→Calls Tryz.prog 78 #[.slice p ns.length c,.agg #[v0,v1,v2,v3],.int .i64 a,.int .i64 d] w1 fun e w'=>e=.returned (.tuple #[.int .i64 (dN ns s.vars s.uses a d).1,.int .i64 (dN ns s.vars s.uses a d).2])∧Below w1.heap.size w1 w'):=hid (fun a d ha hd w1 hb=>L3 w1 p c ns (aF hb hN) ht v0 v1 v2 v3 s (hs.later hb) hf a d ha hd);obtain⟨⟨p0,c0,rfl,h0⟩,⟨p1,c1,rfl,h1⟩,⟨p2,c2,rfl,h2⟩,⟨p3,c3,rfl,h3⟩,_⟩:=hs;subst hp;clear hR h0 h1 h2 h3 hN ct aG IH hf
 have hk2:=jQ ht hn (.inr (.inl az));rw [cD] at az;rw [bP] at hk2;have fS:=cM ht n;rw [bP] at fS;have eD:0<ns[n].kids.length:=af;obtain⟨lq,rq,fu,nu,fN⟩:=bQ cH.out eD;have fB:=lN.out ns[n].kids[0] (List.getElem_mem eD);obtain⟨z0,hz0⟩:∃z:Nat,ns[n].kids[0]=(z:Int):=⟨(ns[n].kids[0]).toNat,by omega⟩;rw [hz0] at fB;have gG:ns[n].kids.getD 0 0=(z0:Int):=zL;rw [gG] at fN;have A0:fV ns (ns[n].kids.take 0)+wt ns z0≤fV ns ns[n].kids:=zM;have fq:1<ns[n].kids.length:=af;obtain⟨AO,Nf,fX,si,zN⟩:=bQ cH.out fq;have ep:=lN.out ns[n].kids[1] (List.getElem_mem fq);obtain⟨z1,hz1⟩:∃z:Nat,ns[n].kids[1]=(z:Int):=⟨(ns[n].kids[1]).toNat,by omega⟩;rw [hz1] at ep;have iH:ns[n].kids.getD 1 0=(z1:Int):=Cq;rw [iH] at zN;have Gz:fV ns (ns[n].kids.take 1)+wt ns z1≤fV ns ns[n].kids:=Cr;rw [Nat.add_zero] at fN;obtain⟨bk,ok,eO,lg,kc0⟩:∃bk ok,ns[n].kp=some ⟨bk,ok,none⟩∧bk<W.heap.size∧W.cell? ⟨bk,ok,none⟩=some (.int .i64 z0):=⟨lq,rq,fu,nu,fN⟩;have kc1:W.cell? ⟨bk,ok+1,none⟩=some (.int .i64 z1):=by rw [eO] at fX;cases fX;exact zN
 have GC:wt ns z0+wt ns z1≤wt ns n:=by
  exact Kr
 rw [eO] at k2;obtain⟨q,hq⟩:∃q,q=ns[n].kids.length:=⟨_,rfl⟩;rw [←hq] at k2 eD fq;have q0:(0:Int)<(q:Int):=af;have q1:(1:Int)<(q:Int):=af;have q2:¬q=0:=af;obtain⟨l0,hl0⟩:∃l,l=aW ns s.vars s.uses k z0 yes:=⟨_,rfl⟩;obtain⟨l1,wN⟩:∃l,l=aW ns s.vars s.uses k z1 yes:=⟨_,rfl⟩;have pF:Hid (R=if yes then l0++l1 else []):=hid (by
  rw [HR.out,if_neg cX,if_neg cX,if_pos az,gG,iH,hl0,wN])
 have hb0:l0.length≤5000:=by rw [hl0];exact Nat.le_trans (fH kj.out _ _ k z0 yes af) af
 have hb1:l1.length≤5000:=by rw [wN];exact Nat.le_trans (fH kj.out _ _ k z1 yes af) af
 have H0:Hid (∀w1,Below W.heap.size W w1→Calls Tryz.prog 34 #[.slice (some ⟨b,o,none⟩) ns.length c,.agg #[.slice p0 s.vars.length c0,.slice p1 s.uses.length c1,.slice p2 s.funcs.length c2,.slice p3 s.cF.length c3],.int .i64 z0,.bool yes] w1 (fM w1 l0)):=hid (by rw [hl0];exact fun w1 hb=>je.out z0 af af yes w1 hb);have H1:Hid (∀w1,Below W.heap.size W w1→Calls Tryz.prog 34 #[.slice (some ⟨b,o,none⟩) ns.length c,.agg #[.slice p0 s.vars.length c0,.slice p1 s.uses.length c1,.slice p2 s.funcs.length c2,.slice p3 s.cF.length c3],.int .i64 z1,.bool yes] w1 (fM w1 l1)):=hid (by rw [wN];exact fun w1 hb=>je.out z1 af af yes w1 hb);clear HR cD ke bP cO Hn Hq lN cH je kj Hf ht hl0 wN hz0 hz1 gG iH eO fu fX fB ep A0 Gz GC fS hk2 hq ZQ fN zN nu si;generalize ns[n]=x at*;obtain⟨xk,xt,xp,xc,dx,eY⟩:=x;simp only at az k0 k1 k2 k3;subst az;generalize s.vars.length=n0 at*;generalize s.uses.length=n1 at*;generalize s.funcs.length=n2 at*;generalize s.cF.length=n3 at*;generalize ns.length=L at*;obtain⟨iT,hiT,zT0,zT1,zT2⟩:=info_parts Tryz.Tz;by_cases hy:yes=false
 ·exact TV
 ·obtain rfl:yes=true:=by cases yes<;>first|rfl|exact absurd rfl hy
  have hr:R=l0++l1:=pF.out;subst hr;clear pF hy;go_enter Tryz.func34,Tryz.ntmps34;go_wp2;obtain⟨wz,nI⟩:∃wz,wz=(W.alloc (.cells #[.slice p0 n0 c0,.slice p1 n1 c1,.slice p2 n2 c2,.slice p3 n3 c3] 28)).alloc (.cells #[.int .i64 29,.string xt,.slice (some ⟨bk,ok,none⟩) q xc,.int .i64 eY] 56):=⟨_,rfl⟩;rw [←nI];have EI:Below W.heap.size W wz:=Cp;have hz1:wz.heap[W.heap.size]?=some (.cells #[.slice p0 n0 c0,.slice p1 n1 c1,.slice p2 n2 c2,.slice p3 n3 c3] 28 (0,0)):=by rw [nI,(au _ _).block _ ak];exact heap_alloc_new _ _
  have hz2:wz.heap[W.heap.size+1]?=some (.cells #[.int .i64 29,.string xt,.slice (some ⟨bk,ok,none⟩) q xc,.int .i64 eY] 56 (0,0)):=by
   rw [nI];have:=heap_alloc_new (W.alloc (.cells #[.slice p0 n0 c0,.slice p1 n1 c1,.slice p2 n2 c2,.slice p3 n3 c3] 28)) (.cells #[.int .i64 29,.string xt,.slice (some ⟨bk,ok,none⟩) q xc,.int .i64 eY] 56);exact Kn
  have xP:=hid (Array.getElem?_eq_some_iff.1 hz1).1;have IG:=hid (Array.getElem?_eq_some_iff.1 hz2).1;have x0:wz.cell? ⟨W.heap.size,0,none⟩=some (.slice p0 n0 c0):=ir;have x1:wz.cell? ⟨W.heap.size,1,none⟩=some (.slice p1 n1 c1):=ir;have x2:wz.cell? ⟨W.heap.size,2,none⟩=some (.slice p2 n2 c2):=ir;have x3:wz.cell? ⟨W.heap.size,3,none⟩=some (.slice p3 n3 c3):=ir;have y1:wz.cell? ⟨W.heap.size+1,1,none⟩=some (.string xt):=uy;have y2:wz.cell? ⟨W.heap.size+1,2,none⟩=some (.slice (some ⟨bk,ok,none⟩) q xc):=uy;have r8:=hid EI;clear EI hz1 hz2 nI;refine wp_region_any ai ?_;refine Am.cJ _ 17 rfl ai ?_;simp only [List.take_succ_cons,List.take_zero];refine Am.cJ _ 16 rfl ai ?_;simp only [List.take_succ_cons,List.take_zero];refine Am.bM (Φ:=zB (.slice (some ⟨b,o,none⟩) L c) (.agg #[.slice p0 n0 c0,.slice p1 n1 c1,.slice p2 n2 c2,.slice p3 n3 c3]) (.slice (some ⟨bk,ok,none⟩) q xc) (W.heap.size+1) bk ok z0 z1 0 0 true W.heap.size l0 l1) (w0:=wz) ai ai ur ?_ ?_ _ ((Below.refl _ _).drew)
  ·have aaf:=trivial;exact aii
  ·exact aeF_
theorem N6 (p:Option Addr) (c:Nat) (ns:List Nd) (ht:Tree ns) (v0 v1 v2 v3:Value) (s:Fs) (hf:Fit ns s) (W:World) (hN:ay W p ns) (hs:nc W v0 v1 v2 v3 s) (k n:Nat) (kU:n≤k) (hn:n<ns.length) (ZQ:wt ns n≤5000) (IH:∀q,q<n→wt ns q≤5000→qs p c ns v0 v1 v2 v3 s W k q) (az:aq ns (n:Int)=30) (yes:Bool):
  Calls Tryz.prog 34 #[.slice p ns.length c,.agg #[v0,v1,v2,v3],.int .i64 n,.bool yes] W (fM W (aW ns s.vars s.uses (k+1) n yes)):=by
 obtain⟨b,o,hp,bO,ct,aG,k0,k1,k2,k3⟩:=bh hN hn;have cD:=aL ct;have ke:dS ns (n:Int)=(ns[n]).text.toList:=ri;have bP:ax ns (n:Int)=(ns[n]).kids:=iA;have cO:=bH ht (n:=(n:Int)) af;rw [bP] at cO;obtain⟨R,hR⟩:∃R,R=aW ns s.vars s.uses (k+1) n yes:=⟨_,rfl⟩;rw [←hR];unfold aW n9 uU at hR;rw [cD,ke,bP] at hR;have a0:(0:Int)≤(n:Int):=af;have a1:(n:Int)<(ns.length:Int):=af;have lN:=hid cO;have cH:=hid aG;have HR:=hid hR;have je:=hid IH;have kj:=hid ht;have Hf:=hid hf;have Hn:Hid (∀(n:Nat),n<ns.length→∀w1,Below W.heap.size W w1→Calls Tryz.prog 77 #[.slice p ns.length c,.agg #[v0,v1,v2,v3],.int .i64 n] w1 fun e w'=>e=.returned (.int .i64 (fL ns s.vars s.uses n))∧Below w1.heap.size w1 w'):=hid (fun n hn w1 hb=>Jv w1 p c ns (aF hb hN) v0 v1 v2 v3 s (hs.later hb) hf n hn);have Hq:Hid (∀(a d:Nat),a<ns.length→d<ns.length→∀w1,Below W.heap.size W w1→Calls Tryz.prog 78 #[.slice p ns.length c,.agg #[v0,v1,v2,v3],.int .i64 a,.int .i64 d] w1 fun e w'=>e=.returned (.tuple #[.int .i64 (dN ns s.vars s.uses a d).1,.int .i64 (dN ns s.vars s.uses a d).2])∧Below w1.heap.size w1 w'):=hid (fun a d ha hd w1 hb=>L3 w1 p c ns (aF hb hN) ht v0 v1 v2 v3 s (hs.later hb) hf a d ha hd);obtain⟨⟨p0,c0,rfl,h0⟩,⟨p1,c1,rfl,h1⟩,⟨p2,c2,rfl,h2⟩,⟨p3,c3,rfl,h3⟩,_⟩:=hs;subst hp;clear hR h0 h1 h2 h3 hN ct aG IH hf
 have hk2:=jQ ht hn (.inr (.inr az));rw [cD] at az;rw [bP] at hk2;have fS:=cM ht n;rw [bP] at fS;have eD:0<ns[n].kids.length:=af;obtain⟨lq,rq,fu,nu,fN⟩:=bQ cH.out eD;have fB:=lN.out ns[n].kids[0] (List.getElem_mem eD);obtain⟨z0,hz0⟩:∃z:Nat,ns[n].kids[0]=(z:Int):=⟨(ns[n].kids[0]).toNat,by omega⟩;rw [hz0] at fB;have gG:ns[n].kids.getD 0 0=(z0:Int):=zL;rw [gG] at fN;have A0:fV ns (ns[n].kids.take 0)+wt ns z0≤fV ns ns[n].kids:=zM;have fq:1<ns[n].kids.length:=af;obtain⟨AO,Nf,fX,si,zN⟩:=bQ cH.out fq;have ep:=lN.out ns[n].kids[1] (List.getElem_mem fq);obtain⟨z1,hz1⟩:∃z:Nat,ns[n].kids[1]=(z:Int):=⟨(ns[n].kids[1]).toNat,by omega⟩;rw [hz1] at ep;have iH:ns[n].kids.getD 1 0=(z1:Int):=Cq;rw [iH] at zN;have Gz:fV ns (ns[n].kids.take 1)+wt ns z1≤fV ns ns[n].kids:=Cr;rw [Nat.add_zero] at fN;obtain⟨bk,ok,eO,lg,kc0⟩:∃bk ok,ns[n].kp=some ⟨bk,ok,none⟩∧bk<W.heap.size∧W.cell? ⟨bk,ok,none⟩=some (.int .i64 z0):=⟨lq,rq,fu,nu,fN⟩;have kc1:W.cell? ⟨bk,ok+1,none⟩=some (.int .i64 z1):=by rw [eO] at fX;cases fX;exact zN
 have GC:wt ns z0+wt ns z1≤wt ns n:=by
  exact Kr
 rw [eO] at k2;obtain⟨q,hq⟩:∃q,q=ns[n].kids.length:=⟨_,rfl⟩;rw [←hq] at k2 eD fq;have q0:(0:Int)<(q:Int):=af;have q1:(1:Int)<(q:Int):=af;have q2:¬q=0:=af;obtain⟨l0,hl0⟩:∃l,l=aW ns s.vars s.uses k z0 yes:=⟨_,rfl⟩;obtain⟨l1,wN⟩:∃l,l=aW ns s.vars s.uses k z1 yes:=⟨_,rfl⟩;have pF:Hid (R=if yes then [] else l0++l1):=hid (by
  rw [HR.out,if_neg cX,if_neg cX,if_neg cX,if_pos az,gG,iH,hl0,wN])
 have hb0:l0.length≤5000:=by rw [hl0];exact Nat.le_trans (fH kj.out _ _ k z0 yes af) af
 have hb1:l1.length≤5000:=by rw [wN];exact Nat.le_trans (fH kj.out _ _ k z1 yes af) af
 have H0:Hid (∀w1,Below W.heap.size W w1→Calls Tryz.prog 34 #[.slice (some ⟨b,o,none⟩) ns.length c,.agg #[.slice p0 s.vars.length c0,.slice p1 s.uses.length c1,.slice p2 s.funcs.length c2,.slice p3 s.cF.length c3],.int .i64 z0,.bool yes] w1 (fM w1 l0)):=hid (by rw [hl0];exact fun w1 hb=>je.out z0 af af yes w1 hb);have H1:Hid (∀w1,Below W.heap.size W w1→Calls Tryz.prog 34 #[.slice (some ⟨b,o,none⟩) ns.length c,.agg #[.slice p0 s.vars.length c0,.slice p1 s.uses.length c1,.slice p2 s.funcs.length c2,.slice p3 s.cF.length c3],.int .i64 z1,.bool yes] w1 (fM w1 l1)):=hid (by rw [wN];exact fun w1 hb=>je.out z1 af af yes w1 hb);clear HR cD ke bP cO Hn Hq lN cH je kj Hf ht hl0 wN hz0 hz1 gG iH eO fu fX fB ep A0 Gz GC fS hk2 hq ZQ fN zN nu si;generalize ns[n]=x at*;obtain⟨xk,xt,xp,xc,dx,eY⟩:=x;simp only at az k0 k1 k2 k3;subst az;generalize s.vars.length=n0 at*;generalize s.uses.length=n1 at*;generalize s.funcs.length=n2 at*;generalize s.cF.length=n3 at*;generalize ns.length=L at*;obtain⟨iT,hiT,zT0,zT1,zT2⟩:=info_parts Tryz.Tz;by_cases hy:yes=true
 ·exact TV
 ·obtain rfl:yes=false:=by cases yes<;>first|rfl|exact absurd rfl hy
  have hr:R=l0++l1:=pF.out;subst hr;clear pF hy;go_enter Tryz.func34,Tryz.ntmps34;go_wp2;obtain⟨wz,nI⟩:∃wz,wz=(W.alloc (.cells #[.slice p0 n0 c0,.slice p1 n1 c1,.slice p2 n2 c2,.slice p3 n3 c3] 28)).alloc (.cells #[.int .i64 30,.string xt,.slice (some ⟨bk,ok,none⟩) q xc,.int .i64 eY] 56):=⟨_,rfl⟩;rw [←nI];have EI:Below W.heap.size W wz:=Cp;have hz1:wz.heap[W.heap.size]?=some (.cells #[.slice p0 n0 c0,.slice p1 n1 c1,.slice p2 n2 c2,.slice p3 n3 c3] 28 (0,0)):=by rw [nI,(au _ _).block _ ak];exact heap_alloc_new _ _
  have hz2:wz.heap[W.heap.size+1]?=some (.cells #[.int .i64 30,.string xt,.slice (some ⟨bk,ok,none⟩) q xc,.int .i64 eY] 56 (0,0)):=by
   rw [nI];have:=heap_alloc_new (W.alloc (.cells #[.slice p0 n0 c0,.slice p1 n1 c1,.slice p2 n2 c2,.slice p3 n3 c3] 28)) (.cells #[.int .i64 30,.string xt,.slice (some ⟨bk,ok,none⟩) q xc,.int .i64 eY] 56);exact Kn
  have xP:=hid (Array.getElem?_eq_some_iff.1 hz1).1;have IG:=hid (Array.getElem?_eq_some_iff.1 hz2).1;have x0:wz.cell? ⟨W.heap.size,0,none⟩=some (.slice p0 n0 c0):=ir;have x1:wz.cell? ⟨W.heap.size,1,none⟩=some (.slice p1 n1 c1):=ir;have x2:wz.cell? ⟨W.heap.size,2,none⟩=some (.slice p2 n2 c2):=ir;have x3:wz.cell? ⟨W.heap.size,3,none⟩=some (.slice p3 n3 c3):=ir;have y1:wz.cell? ⟨W.heap.size+1,1,none⟩=some (.string xt):=uy;have y2:wz.cell? ⟨W.heap.size+1,2,none⟩=some (.slice (some ⟨bk,ok,none⟩) q xc):=uy;have r8:=hid EI;clear EI hz1 hz2 nI;refine wp_region_any ai ?_;refine Am.cJ _ 17 rfl ai ?_;simp only [List.take_succ_cons,List.take_zero];refine Am.cJ _ 16 rfl ai ?_;simp only [List.take_succ_cons,List.take_zero];refine Am.bM (Φ:=zB (.slice (some ⟨b,o,none⟩) L c) (.agg #[.slice p0 n0 c0,.slice p1 n1 c1,.slice p2 n2 c2,.slice p3 n3 c3]) (.slice (some ⟨bk,ok,none⟩) q xc) (W.heap.size+1) bk ok z0 z1 0 0 false W.heap.size l0 l1) (w0:=wz) ai ai ur ?_ ?_ _ ((Below.refl _ _).drew)
  ·have aag:=trivial;exact aii
  ·exact aeF_
theorem N7 (p:Option Addr) (c:Nat) (ns:List Nd) (ht:Tree ns) (v0 v1 v2 v3:Value) (s:Fs) (hf:Fit ns s) (W:World) (hN:ay W p ns) (hs:nc W v0 v1 v2 v3 s) (k n:Nat) (kU:n≤k) (hn:n<ns.length) (ZQ:wt ns n≤5000) (IH:∀q,q<n→wt ns q≤5000→qs p c ns v0 v1 v2 v3 s W k q) (az:aq ns (n:Int)=27) (yes:Bool):
  Calls Tryz.prog 34 #[.slice p ns.length c,.agg #[v0,v1,v2,v3],.int .i64 n,.bool yes] W (fM W (aW ns s.vars s.uses (k+1) n yes)):=by
 have ZW:=trivial;exact TA
theorem Gr (p:Option Addr) (c:Nat) (ns:List Nd) (ht:Tree ns) (v0 v1 v2 v3:Value) (s:Fs) (hf:Fit ns s) (W:World) (hN:ay W p ns) (hs:nc W v0 v1 v2 v3 s) (k n:Nat) (kU:n≤k) (hn:n<ns.length) (ZQ:wt ns n≤5000) (IH:∀q,q<n→wt ns q≤5000→qs p c ns v0 v1 v2 v3 s W k q) (az:aq ns (n:Int)≠17∧aq ns (n:Int)≠28∧aq ns (n:Int)≠29∧aq ns (n:Int)≠30∧aq ns (n:Int)≠27) (yes:Bool):
  Calls Tryz.prog 34 #[.slice p ns.length c,.agg #[v0,v1,v2,v3],.int .i64 n,.bool yes] W (fM W (aW ns s.vars s.uses (k+1) n yes)):=by
 obtain⟨m1,m2,m3,m4,m5⟩:=az;obtain⟨b,o,hp,bO,ct,aG,k0,k1,k2,k3⟩:=bh hN hn;have cD:=aL ct;have ke:dS ns (n:Int)=(ns[n]).text.toList:=ri;have bP:ax ns (n:Int)=(ns[n]).kids:=iA;have cO:=bH ht (n:=(n:Int)) af;rw [bP] at cO;obtain⟨R,hR⟩:∃R,R=aW ns s.vars s.uses (k+1) n yes:=⟨_,rfl⟩;rw [←hR];unfold aW n9 uU at hR;rw [cD,ke,bP] at hR;have a0:(0:Int)≤(n:Int):=af;have a1:(n:Int)<(ns.length:Int):=af;have lN:=hid cO;have cH:=hid aG;have HR:=hid hR;have je:=hid IH;have kj:=hid ht;have Hf:=hid hf;have Hn:Hid (∀(n:Nat),n<ns.length→∀w1,Below W.heap.size W w1→Calls Tryz.prog 77 #[.slice p ns.length c,.agg #[v0,v1,v2,v3],.int .i64 n] w1 fun e w'=>e=.returned (.int .i64 (fL ns s.vars s.uses n))∧Below w1.heap.size w1 w'):=hid (fun n hn w1 hb=>Jv w1 p c ns (aF hb hN) v0 v1 v2 v3 s (hs.later hb) hf n hn);have Hq:Hid (∀(a d:Nat),a<ns.length→d<ns.length→∀w1,Below W.heap.size W w1→Calls Tryz.prog 78 #[.slice p ns.length c,.agg #[v0,v1,v2,v3],.int .i64 a,.int .i64 d] w1 fun e w'=>e=.returned (.tuple #[.int .i64 (dN ns s.vars s.uses a d).1,.int .i64 (dN ns s.vars s.uses a d).2])∧Below w1.heap.size w1 w'):=hid (fun a d ha hd w1 hb=>L3 w1 p c ns (aF hb hN) ht v0 v1 v2 v3 s (hs.later hb) hf a d ha hd);obtain⟨⟨p0,c0,rfl,h0⟩,⟨p1,c1,rfl,h1⟩,⟨p2,c2,rfl,h2⟩,⟨p3,c3,rfl,h3⟩,_⟩:=hs;subst hp;clear hR h0 h1 h2 h3 hN ct aG IH hf;rw [cD] at m1 m2 m3 m4 m5;have hr:R=[]:=by rw [HR.out,if_neg m1,if_neg m2,if_neg m3,if_neg m4,if_neg m5]
 subst hr;clear HR cD ke bP cO Hn Hq lN cH je kj Hf ht;generalize ns[n]=x at*;obtain⟨xk,xt,xp,xc,dx,eY⟩:=x;simp only at k0 k1 k2 k3 m1 m2 m3 m4 m5;generalize s.vars.length=n0 at*;generalize s.uses.length=n1 at*;generalize s.funcs.length=n2 at*;generalize s.cF.length=n3 at*;generalize ns.length=L at*;exact Kb
theorem L4 (p:Option Addr) (c:Nat) (ns:List Nd) (ht:Tree ns) (hw:∀m,m<ns.length→wt ns m≤5000) (v0 v1 v2 v3:Value) (s:Fs) (hf:Fit ns s) (W:World) (hN:ay W p ns) (hs:nc W v0 v1 v2 v3 s):∀(k n:Nat),n<k→n<ns.length→qs p c ns v0 v1 v2 v3 s W k n
 |0,n,h,_=>absurd h af
 |k+1,n,kU,hn=>fun yes W1 hb1=>by
  have uKq:=aF hb1 hN;have hs1:=hs.later hb1;have IH:∀q,q<n→wt ns q≤5000→qs p c ns v0 v1 v2 v3 s W1 k q:=fun q hq _ arJ W2 hb2=>L4 p c ns ht hw v0 v1 v2 v3 s hf W hN hs k q af af arJ W2 (hb1.trans (hb2.mono hb1.size))
  by_cases m1:aq ns (n:Int)=17
  ·exact N3 p c ns ht v0 v1 v2 v3 s hf W1 uKq hs1 k n af hn (hw n hn) IH m1 yes
  by_cases m2:aq ns (n:Int)=28
  ·exact N4 p c ns ht v0 v1 v2 v3 s hf W1 uKq hs1 k n af hn (hw n hn) IH m2 yes
  by_cases m3:aq ns (n:Int)=29
  ·exact N5 p c ns ht v0 v1 v2 v3 s hf W1 uKq hs1 k n af hn (hw n hn) IH m3 yes
  by_cases m4:aq ns (n:Int)=30
  ·exact N6 p c ns ht v0 v1 v2 v3 s hf W1 uKq hs1 k n af hn (hw n hn) IH m4 yes
  by_cases m5:aq ns (n:Int)=27
  ·exact N7 p c ns ht v0 v1 v2 v3 s hf W1 uKq hs1 k n af hn (hw n hn) IH m5 yes
  exact Gr p c ns ht v0 v1 v2 v3 s hf W1 uKq hs1 k n af hn (hw n hn) IH ⟨m1,m2,m3,m4,m5⟩ yes
end Go.Proofs.YtjchnliaglecoaaGreatDoor

/- A part of the proof. Conditions: none. -/
set_option maxRecDepth 100000
set_option maxHeartbeats 8000000
namespace Go.Proofs.YtjchnliaglecoaaGreatDoor
open Go Go.RowKit Go.Nodes Go.Am
def qT (x:Int × Int):Array Value:=#[.agg #[.int .i64 x.1,.int .i64 x.2]]
structure Kt (B N ob:Nat) (A C:World):Prop where
 below:Below B A C
 size:A.heap.size≤C.heap.size
 old:∀k,k<N→k≠ob→C.heap[k]?=A.heap[k]?
 cells:∀(k:Nat) (cs:Array Value) (t:TypeId),t≠32→t≠58→A.heap[k]?=some (.cells cs t (0,0))→C.heap[k]?=some (.cells cs t (0,0))
theorem Kt.trans {B N ob:Nat} {A C D:World} (h:Kt B N ob A C) (k:Kt B N ob C D):Kt B N ob A D:=
 ⟨h.below.trans k.below,Nat.le_trans h.size k.size,fun n a b=>(k.old n a b).trans (h.old n a b),fun n cs t t1 t2 h1=>k.cells n cs t t1 t2 (h.cells n cs t t1 t2 h1)⟩
theorem Kt.jU {B N ob:Nat} {A C:World} (h:Below A.heap.size A C) (hB:B≤A.heap.size) (hN:N≤A.heap.size):Kt B N ob A C:=
 ⟨h.mono hB,h.size,fun k hk _=>h.block k af,fun k cs t _ _ hk=>(h.block k (Array.getElem?_eq_some_iff.1 hk).1).trans hk⟩
theorem arj {B N ob:Nat} {w:World} (hB:B≤w.heap.size) (hN:N≤w.heap.size) (W:World) (l:Nat) (o o':Obj) (hl:w.heap.size≤l) (h:W.heap[l]?=some o) (h1:o.isCells=false) (h2:o.isWalk=false):Kt B N ob W (W.putObj l o'):=
 ⟨belowK_b hB W l o o' hl h h1 h2,(belowK_b hB W l o o' hl h h1 h2).size,fun k hk _=>World.putObj_heap_other af,fun k cs t _ _ hk=>(World.putObj_heap_other (by intro e;subst e;rw [h] at hk;cases hk;cases h1)).trans hk⟩
theorem Kt.boxed {B N ob:Nat} {A C:World} (h:Kt B N ob A C) {b:Nat} {t:TypeId} {v:Value} (h1:t≠32) (h2:t≠58) (hb:Boxed A b t v):Boxed C b t v:=h.cells _ _ _ h1 h2 hb
structure AW (w0:World) (N:Nat) (p:Option Addr) (c L:Nat) (v0 v1 v2 v3:Value) (tb mb TB YB DB l:Nat) (W:World):Prop where
 below:Below w0.heap.size w0 W
 size:N≤W.heap.size
 tT:Boxed W TB 118 (.pointer (some ⟨tb,0,none⟩))
 tU:Boxed W YB 160 (.func (.yield l) #[] #[])
 o7:Boxed W DB 161 (.func (.func 124) #[] #[.pointer (some ⟨TB,0,none⟩),.pointer (some ⟨YB,0,none⟩),.pointer (some ⟨DB,0,none⟩)])
 tell:jV W tb p L c v0 v1 v2 v3 mb
 map:fe W mb (AL 7)
theorem AW.later {w0:World} {N:Nat} {p:Option Addr} {c L:Nat} {v0 v1 v2 v3:Value} {tb mb TB YB DB l:Nat} {W W':World} (h:AW w0 N p c L v0 v1 v2 v3 tb mb TB YB DB l W) (hb:Below W.heap.size W W'):AW w0 N p c L v0 v1 v2 v3 tb mb TB YB DB l W':=
 ⟨h.below.trans (hb.mono h.below.size),Nat.le_trans h.size hb.size,h.tT.kept (bK hb) ak,h.tU.kept (bK hb) ak,h.o7.kept (bK hb) ak,h.tell.later hb,h.map.kept (bK hb) ak⟩
theorem AW.step {w0:World} {N ob:Nat} {p:Option Addr} {c L:Nat} {v0 v1 v2 v3:Value} {tb mb TB YB DB l:Nat} {W W':World} (h:AW w0 N p c L v0 v1 v2 v3 tb mb TB YB DB l W) (hk:Kt w0.heap.size N ob W W') (hm:mb<N) (xq:mb≠ob):AW w0 N p c L v0 v1 v2 v3 tb mb TB YB DB l W':=
 ⟨h.below.trans hk.below,Nat.le_trans h.size hk.size,hk.boxed aj aj h.tT,hk.boxed aj aj h.tU,hk.boxed aj aj h.o7,⟨hk.cells _ _ _ aj aj h.tell.heap⟩,by
  obtain⟨k,D,⟨es,uZ,hh,F,hs,hD⟩,h2⟩:=h.map.own;exact⟨k,D,⟨es,uZ,(hk.old mb hm xq).trans hh,F,hs,hD⟩,h2⟩⟩
theorem DM {F:Fence} (hd:F.depth=none) (k:Nat):F.room k:=fun d h=>by rw [hd] at h;cases h
theorem RoundIn.zn {F:Fence} (hd:F.depth=none) {m m':Nat} {P:Program} {l:Nat} {f:FuncId} {tmps:Array Value} {assign body:Code} {w:World} {R:Ending→World→Prop}
  (h:RoundIn F m P l f tmps assign body w R):RoundIn F m' P l f tmps assign body w R:=⟨h.1,fun c cs _=>h.2 c cs (DM hd _)⟩
theorem YieldAt.zn {F:Fence} (hd:F.depth=none) {m:Nat} (m':Nat) {P:Program} {l:Nat} {args:Array Value} {W:World} {R:Ending→World→Prop} (h:YieldAt F m P l args W R):YieldAt F m' P l args W R:=by
 obtain⟨fn,tmps,assign,body,hy,hR⟩:=h;exact⟨fn,tmps,assign,body,hy,RoundIn.zn hd hR⟩
def nJ (w0:World) (N ob:Nat) (J Jx:List (Int × Int)→World→Prop) (pr l:List (Int × Int)) (W:World) (e:Ending) (W':World):Prop:=
 (e=.returned (.bool true)∧J (pr++l) W'∧Kt w0.heap.size N ob W W')∨(e=.returned (.bool false)∧∃q,Jx (pr++q) W')
def pS (n:Nat) (w0:World) (N ob M:Nat) (J Jx:List (Int × Int)→World→Prop) (p:Option Addr) (c:Nat) (ns:List Nd) (v0 v1 v2 v3:Value) (s:Fs) (tb mb TB YB DB l:Nat) (k i:Nat):Prop:=
 ∀(yes:Bool) (pr:List (Int × Int)) (W:World),AW w0 N p c ns.length v0 v1 v2 v3 tb mb TB YB DB l W→J pr W→pr.length+(aW ns s.vars s.uses k i yes).length≤M→
  CallsIn Fence.wide n Tryz.prog 124 #[.int .i64 i,.bool yes,.pointer (some ⟨TB,0,none⟩),.pointer (some ⟨YB,0,none⟩),.pointer (some ⟨DB,0,none⟩)] W (nJ w0 N ob J Jx pr (aW ns s.vars s.uses k i yes) W)
end Go.Proofs.YtjchnliaglecoaaGreatDoor
