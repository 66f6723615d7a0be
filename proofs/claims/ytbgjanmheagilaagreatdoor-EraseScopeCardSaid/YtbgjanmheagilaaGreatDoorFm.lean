/- A part of the proof. Conditions: none. -/
import Derived.Test.YtbgjanmheagilaaGreatDoorZz
import Derived.Test.YtbgjanmheagilaaGreatDoorRkX
import Derived.Test.YtbgjanmheagilaaGreatDoorEcX
import Derived.Test.YtbgjanmheagilaaGreatDoorTb
set_option linter.unusedVariables false
set_option linter.unusedSimpArgs false
set_option maxRecDepth 100000
set_option maxHeartbeats 8000000
namespace Go.Proofs.YtbgjanmheagilaaGreatDoor
open Go Go.RowKit Go.Nodes
structure Vr where
 node:Int
 fn:Int
 taken:Bool
 set:Bool
structure Fs where
 vars:List Vr
 uses:List Int
 funcs:List Int
 jh:List Int
 seen:List Int
 many:List Int
 aT:Int
 e:Int
def gN (ns:List Nd) (n:Int):List UInt8:=match ns[n.toNat]? with
 |some x=>x.text.toList
 |none=>[]
def aF (ns:List Nd) (n:Int):List Int:=match ns[n.toNat]? with
 |some x=>x.kids
 |none=>[]
def bt (s:Fs) (n e:Int):Fs:=if s.e=0 then {s with aT:=n,e:=e} else s
def cG (s:Fs) (fn:Int):Fs:={s with many:=s.many.set fn.toNat (s.many.getD fn.toNat 0+1)}
def lC (s:Fs) (n fn:Int):Fs:={s with uses:=s.uses.set n.toNat s.vars.length,seen:=s.seen++[(s.vars.length:Int)],vars:=s.vars++[⟨n,fn,false,false⟩]}
def eE (ns:List Nd) (s:Fs) (n fn:Int):Fs:=
 let s1:=cG (if 0≤bn (gN ns n) then bt s n 110 else s) fn
 lC (if 200<s1.many.getD fn.toNat 0 then bt s1 n 2 else s1) n fn
def lX (s:Fs) (v:Int):Int:=match s.vars[v.toNat]? with
 |some x=>x.node
 |none=>0
def fk (s:Fs) (n v fn:Int) (set:Bool):Fs:=
 {s with uses:=s.uses.set n.toNat v,vars:=s.vars.modify v.toNat fun x=>{x with taken:=x.taken||(x.fn !=fn),set:=x.set||set}}
def jy (ns:List Nd) (s:Fs) (n fn:Int) (set:Bool):Fs:=match s.seen.reverse.find? (fun v=>gN ns (lX s v)==gN ns n) with
 |some v=>fk s n v fn set
 |none=>bt s n 110
def cS (ns:List Nd) (fn:Int):List Int→List Int→Fs→Fs
 |_,[],s=>s
 |pre,k::ks,s=>cS ns fn (pre++[k]) ks (eE ns (pre.foldl (fun s m=>if gN ns k==gN ns m then bt s k 110 else s) s) k fn)
def pK (ns:List Nd) (node:Int→Int→Bool→Fs→Fs) (n up:Int) (s:Fs):Fs:=
 let fn:Int:=s.funcs.length
 let s1:={s with funcs:=s.funcs++[n],jh:=s.jh++[up],many:=s.many++[0]}
 let kids:=aF ns n
 let s2:=node (kids.getD (kids.length - 1) 0) fn false (cS ns fn [] (kids.take (kids.length - 2)) s1)
 {s2 with seen:=s2.seen.take s.seen.length}
def aH (ns:List Nd):Nat→Int→Int→Bool→Fs→Fs
 |0,_,_,_,s=>s
 |k+1,n,fn,loop,s=>if s.e≠0 then s else
  let kids:=aF ns n
  if ag ns n=17 then jy ns s n fn false
  else if ag ns n=11 then(if loop then s else bt s n 111)
  else if ag ns n=22 then pK ns (aH ns k) n fn s
  else if ag ns n=4 then(let s1:=aH ns k (kids.getD 1 0) fn loop s;if s1.e=0 then eE ns s1 n fn else s1)
  else if ag ns n=5 then aH ns k (kids.getD 0 0) fn loop (eE ns s n fn)
  else if ag ns n=6 then aH ns k (kids.getD 1 0) fn loop (if ag ns (kids.getD 0 0)=17 then jy ns s (kids.getD 0 0) fn true else aH ns k (kids.getD 0 0) fn loop s)
  else if ag ns n=9 then aH ns k (kids.getD 1 0) fn true (aH ns k (kids.getD 0 0) fn loop s)
  else
   let s1:=kids.foldl (fun s q=>aH ns k q fn loop s) s
   if ag ns n=3 then {s1 with seen:=s1.seen.take s.seen.length} else s1
def bp (ns:List Nd):Fs:=
 let kids:=aF ns ((ns.length:Int) - 1)
 aH ns ns.length (kids.getD (kids.length - 1) 0) 0 false ⟨[],List.replicate ns.length (-1),[-1],[-1],[],[0],0,0⟩
structure eF (L:Nat) (s:Fs):Prop where
 uses:s.uses.length=L
 seen:∀v∈s.seen,0≤v∧v<s.vars.length
 nodes:∀x∈s.vars,0≤x.node∧x.node<L
 few:s.seen.length≤s.vars.length
 many:s.many.length=s.funcs.length
 jh:s.jh.length=s.funcs.length
 counts:∀m∈s.many,0≤m∧m≤s.vars.length
def Vr.cells (x:Vr):List Value:=[.int .i64 x.node,.int .i64 x.fn,.bool x.taken,.bool x.set]
def cJ (vs:List Vr):List Value:=(vs.map Vr.cells).flatten
theorem EY (vs:List Vr) (x:Vr):cJ (vs++[x])=cJ vs++x.cells:=by simp [cJ]
theorem Js (vs:List Vr):(cJ vs).length=vs.length*4:=by
 induction vs with
 |nil=>rfl
 |cons x vs ih=>simp [cJ,Vr.cells] at ih ⊢;omega
theorem rG:∀(vs:List Vr) (i:Nat) (h:i<vs.length) (j:Nat),j<4→(cJ vs)[i*4+j]?=(vs[i].cells)[j]?
 |[],i,h,j,hj=>by simp at h
 |x::vs,0,h,j,hj=>by
  show(x.cells++cJ vs)[0*4+j]?=_;rw [List.getElem?_append_left (by simp [Vr.cells];omega)];simp
 |x::vs,i+1,h,j,hj=>by
  show(x.cells++cJ vs)[(i+1)*4+j]?=_;rw [List.getElem?_append_right (by simp [Vr.cells];omega),show(i+1)*4+j - x.cells.length=i*4+j by simp [Vr.cells];omega];exact rG vs i kV j hj
def Fs.rows (s:Fs):List (List Int):=[s.uses,s.funcs,s.jh,s.seen,s.many]
structure bz (FB:Nat) (p:Option Addr) (c L:Nat) (W:World) (s:Fs) (v0 v1 v2 v3 v4 v5:Value):Prop where
 heap:W.heap[FB]?=some (.cells #[.slice p L c,v0,v1,v2,v3,v4,v5,.int .i64 s.aT,.int .i64 s.e] 61 (0,0))
 rows:gH (FB+1) W [v1,v2,v3,v4,v5] s.rows
 vars:W.ownsRow (FB+1) 37 4 v0 s.vars.length (cJ s.vars)
def Lr (FB:Nat) (p:Option Addr) (c L:Nat) (W:World) (s:Fs):Prop:=∃v0 v1 v2 v3 v4 v5,bz FB p c L W s v0 v1 v2 v3 v4 v5
section
variable {FB:Nat} {p:Option Addr} {c L:Nat} {W W':World} {s s':Fs} {v0 v1 v2 v3 v4 v5:Value}
theorem bz.lt (h:bz FB p c L W s v0 v1 v2 v3 v4 v5):FB<W.heap.size:=(Array.getElem?_eq_some_iff.1 h.heap).1
theorem bz.later (h:bz FB p c L W s v0 v1 v2 v3 v4 v5) (hb:Below W.heap.size W W'):bz FB p c L W' s v0 v1 v2 v3 v4 v5:=
 ⟨by rw [hb.block _ h.lt];exact h.heap,h.rows.later hb,cC h.vars hb⟩
theorem bz.cell (h:bz FB p c L W s v0 v1 v2 v3 v4 v5) (k:Nat):W.cell? ⟨FB,k,none⟩=(#[Value.slice p L c,v0,v1,v2,v3,v4,v5,.int .i64 s.aT,.int .i64 s.e]:Array Value)[k]?:=by
 simp [World.cell?,h.heap]
theorem bz.frozen (h:bz FB p c L W s v0 v1 v2 v3 v4 v5) (k:Nat):W.frozen? ⟨FB,k,none⟩=false:=by simp [World.frozen?,h.heap]
theorem zH {B FB:Nat} {W:World} {v:Value} {l:List Int} (h:Ints B W v l) {cs:Array Value} {T:TypeId} (hx:W.heap[FB]?=some (.cells cs T (0,0))) (hT:T≠3):v.ownBlock≠some FB:=fun e=>by
 obtain⟨cc,fz,hh⟩:=Lib.ownsRow_kind h _ e;rw [hx] at hh;cases hh;exact hT rfl
theorem fA {B FB:Nat} {W:World} {v:Value} {n:Nat} {xs:List Value} (h:W.ownsRow B 37 4 v n xs) {cs:Array Value} {T:TypeId} (hx:W.heap[FB]?=some (.cells cs T (0,0))) (hT:T≠37):v.ownBlock≠some FB:=fun e=>by
 obtain⟨cc,fz,hh⟩:=Lib.ownsRow_kind h _ e;rw [hx] at hh;cases hh;exact hT rfl
theorem qi {B:Nat} {W:World} {v u:Value} {l:List Int} {n:Nat} {xs:List Value} (h:Ints B W v l) (k:W.ownsRow B 37 4 u n xs):∀g,v.ownBlock=some g→u.ownBlock≠some g:=fun g e e2=>by
 obtain⟨cc,fz,hh⟩:=Lib.ownsRow_kind h _ e;obtain⟨cc2,fz2,JL⟩:=Lib.ownsRow_kind k _ e2;rw [hh] at JL;cases JL
theorem fU (W:World) (g i:Nat) (x:Value):W.grownBy (W.setCell ⟨g,i,none⟩ x) (some g):=
 ⟨rfl,rfl,rfl,by simp,fun n hn hne=>Below.heap_setCell _ _ _ _ (by simpa using hne)⟩
theorem bz.uG {W1:World} (h:bz FB p c L W s v0 v1 v2 v3 v4 v5) (j:Nat) {v v':Value} {l':List Int} (hj:[v1,v2,v3,v4,v5][j]?=some v) (hg:W.grownBy W1 v.ownBlock) (hown:Ints (FB+1) W1 v' l')
  (AW:v'.ownBlock=v.ownBlock∨v'.ownBlock=some W.heap.size):
  W1.heap[FB]?=some (.cells #[.slice p L c,v0,v1,v2,v3,v4,v5,.int .i64 s.aT,.int .i64 s.e] 61 (0,0))∧gH (FB+1) W1 ([v1,v2,v3,v4,v5].set j v') (s.rows.set j l')∧W1.ownsRow (FB+1) 37 4 v0 s.vars.length (cJ s.vars):=by
 have hi:j<s.rows.length:=by rw [←h.rows.len];exact(List.getElem?_eq_some_iff.1 hj).1
 have hI:=h.rows.rows j v _ hj (List.getElem?_eq_getElem hi);have hne:=zH hI h.heap ay;refine⟨by rw [hg.block FB h.lt (fun e=>hne e.symm)];exact h.heap,h.rows.put j hj hg hown AW,h.vars.kept hg ?_⟩;exact Lp
theorem C3 {B:Nat} {g c:Nat} {l:List Int} (h:Ints B W (.slice (some ⟨g,0,none⟩) l.length c) l) (i:Nat) (hi:i<l.length) (x:Int):Ints B (W.setCell ⟨g,i,none⟩ (.int .i64 x)) (.slice (some ⟨g,0,none⟩) l.length c) (l.set i x):=by
 refine⟨by simp, ?_⟩;rcases h.2 with⟨h1,h2⟩|⟨g',cap,cur,hv,hg,hh,hn,hm,hsz,xz⟩
 ·cases h1
 ·cases hv;refine .inr ⟨g,c,_,by simp,hg,bY hh i _,by simpa using hn,hm,by simpa using hsz, ?_⟩;rw [List.length_set,List.map_set,←xz,Array.toList_setIfInBounds,List.take_set]
theorem bz.La {W1:World} (h:bz FB p c L W s v0 v1 v2 v3 v4 v5) {v':Value} {l':List Int} (hg:W.grownBy W1 v1.ownBlock) (hown:Ints (FB+1) W1 v' l') (AW:v'.ownBlock=v1.ownBlock∨v'.ownBlock=some W.heap.size):
  bz FB p c L (W1.setCell ⟨FB,2,none⟩ v') {s with uses:=l'} v0 v' v2 v3 v4 v5:=by
 obtain⟨h1,h2,h3⟩:=h.uG 0 rfl hg hown AW;have hg2:=fU W1 FB 2 v';exact WH
theorem bz.qg (h:bz FB p c L W s v0 v1 v2 v3 v4 v5) {g cp i:Nat} (hv:v1=.slice (some ⟨g,0,none⟩) s.uses.length cp) (hi:i<s.uses.length) (x:Int):
  bz FB p c L (W.setCell ⟨g,i,none⟩ (.int .i64 x)) {s with uses:=s.uses.set i x} v0 v1 v2 v3 v4 v5:=by
 have hI:=h.rows.rows 0 _ _ rfl rfl;subst hv;obtain⟨h1,h2,h3⟩:=h.uG (W1:=W.setCell ⟨g,i,none⟩ (.int .i64 x)) (v':=.slice (some ⟨g,0,none⟩) s.uses.length cp) (l':=s.uses.set i x) 0 rfl (fU W g i _) (by have:=C3 hI i hi x;simpa using this) (.inl rfl);exact⟨h1,h2,h3⟩
theorem bz.Pj {W1:World} (h:bz FB p c L W s v0 v1 v2 v3 v4 v5) {v':Value} {l':List Int} (hg:W.grownBy W1 v4.ownBlock) (hown:Ints (FB+1) W1 v' l') (AW:v'.ownBlock=v4.ownBlock∨v'.ownBlock=some W.heap.size):
  bz FB p c L (W1.setCell ⟨FB,5,none⟩ v') {s with seen:=l'} v0 v1 v2 v3 v' v5:=by
 obtain⟨h1,h2,h3⟩:=h.uG 3 rfl hg hown AW;exact UZ
theorem bz.BN (h:bz FB p c L W s v0 v1 v2 v3 v4 v5) {g cp i:Nat} (hv:v5=.slice (some ⟨g,0,none⟩) s.many.length cp) (hi:i<s.many.length) (x:Int):
  bz FB p c L (W.setCell ⟨g,i,none⟩ (.int .i64 x)) {s with many:=s.many.set i x} v0 v1 v2 v3 v4 v5:=by
 have hI:=h.rows.rows 4 _ _ rfl rfl;subst hv;obtain⟨h1,h2,h3⟩:=h.uG (W1:=W.setCell ⟨g,i,none⟩ (.int .i64 x)) (v':=.slice (some ⟨g,0,none⟩) s.many.length cp) (l':=s.many.set i x) 4 rfl (fU W g i _) (by have:=C3 hI i hi x;simpa using this) (.inl rfl);exact⟨h1,h2,h3⟩
theorem bz.BV (h:bz FB p c L W s v0 v1 v2 v3 v4 v5) {v':Value} {l':List Int} (hown:Ints (FB+1) W v' l') (he:v'.ownBlock=v4.ownBlock):
  bz FB p c L (W.setCell ⟨FB,5,none⟩ v') {s with seen:=l'} v0 v1 v2 v3 v' v5:=
 h.Pj (W1:=W) ⟨rfl,rfl,rfl,Nat.le_refl _,fun _ _ _=>rfl⟩ hown (.inl he)
theorem bz.N3 {W1:World} (h:bz FB p c L W s v0 v1 v2 v3 v4 v5) {v':Value} {l':List Vr} (hg:W.grownBy W1 v0.ownBlock) (hown:W1.ownsRow (FB+1) 37 4 v' l'.length (cJ l')):
  bz FB p c L (W1.setCell ⟨FB,1,none⟩ v') {s with vars:=l'} v' v1 v2 v3 v4 v5:=by
 have hne:=fA h.vars h.heap ay;have h1:W1.heap[FB]?=some (.cells #[.slice p L c,v0,v1,v2,v3,v4,v5,.int .i64 s.aT,.int .i64 s.e] 61 (0,0)):=by rw [hg.block FB h.lt (fun e=>hne e.symm)];exact h.heap
 have hg2:=fU W1 FB 1 v';refine⟨by rw [bY h1 _ _];rfl,⟨h.rows.len,fun i v l a b=>ct (oW (h.rows.rows i v l a b) hg fun g e e2=>qi (h.rows.rows i v l a b) h.vars g e e2) _ aa,h.rows.apart⟩,hown.kept hg2 (.inr (fA hown h1 ay))⟩
theorem bz.Pe {W1:World} (h:bz FB p c L W s v0 v1 v2 v3 v4 v5) {l':List Vr} (hg:W.grownBy W1 v0.ownBlock) (hown:W1.ownsRow (FB+1) 37 4 v0 l'.length (cJ l')):
  bz FB p c L W1 {s with vars:=l'} v0 v1 v2 v3 v4 v5:=by
 have hne:=fA h.vars h.heap ay;refine⟨by rw [hg.block FB h.lt (fun e=>hne e.symm)];exact h.heap,⟨h.rows.len,fun i v l a b=>oW (h.rows.rows i v l a b) hg fun g e e2=>qi (h.rows.rows i v l a b) h.vars g e e2,h.rows.apart⟩,hown⟩
theorem bz.ag5 (h:bz FB p c L W s v0 v1 v2 v3 v4 v5) (x:Int):bz FB p c L (W.setCell ⟨FB,7,none⟩ (.int .i64 x)) {s with aT:=x} v0 v1 v2 v3 v4 v5:=by
 have hg:W.grownBy (W.setCell ⟨FB,7,none⟩ (.int .i64 x)) (some FB):=⟨rfl,rfl,rfl,by simp,fun n hn hne=>Below.heap_setCell _ _ _ _ (by simpa using hne)⟩;exact Wo
theorem bz.ag6 (h:bz FB p c L W s v0 v1 v2 v3 v4 v5) (x:Int):bz FB p c L (W.setCell ⟨FB,8,none⟩ (.int .i64 x)) {s with e:=x} v0 v1 v2 v3 v4 v5:=by
 have hg:W.grownBy (W.setCell ⟨FB,8,none⟩ (.int .i64 x)) (some FB):=⟨rfl,rfl,rfl,by simp,fun n hn hne=>Below.heap_setCell _ _ _ _ (by simpa using hne)⟩;exact Wo
end
end Go.Proofs.YtbgjanmheagilaaGreatDoor