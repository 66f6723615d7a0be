/- A part of the proof. Conditions: none. -/
import Derived.WalkKit
import Derived.WalkSpells
import Derived.WalkLawsBesides
import Derived.Below
import Derived.Laws.CopyRow
import Derived.Laws.AppendOwn
import Derived.Laws.MakeOwn
import Derived.Laws.Tables
import Derived.Laws.Cells
import Derived.ChangeKeysEq
import Derived.Test.YtjchnliaglecoaaGreatDoorZz
import Derived.Laws.Build
import Derived.Laws.Slices
import Derived.Laws.BytesString
import Derived.Laws.RangeAny
import Derived.Laws.RangeString
import Derived.Orders
set_option linter.unusedVariables false
set_option linter.unusedSimpArgs false
set_option maxRecDepth 100000
set_option maxHeartbeats 8000000
namespace Go.Am
open Go Go.RowKit
inductive Trie (α:Type) where
 |leaf
 |node (v:Option α) (l r:Trie α)
noncomputable def agF {β:Type} (c:Bool) (a b:β):β:=Bool.rec (motive:=fun _=>β) b a c
@[simp] theorem aeY {β : Type} (a b : β) : agF true a b = a := rfl
@[simp] theorem abx {β : Type} (a b : β) : agF false a b = b := rfl
noncomputable def ajQ {β:Type} (n:Nat) (z:β) (s:Nat→β):β:=Nat.rec (motive:=fun _=>β) z (fun k _=>s k) n
@[simp] theorem aeZ {β : Type} (z : β) (s : Nat → β) : ajQ 0 z s = z := rfl
noncomputable def Trie.get {α:Type} (t:Trie α):Nat→Option α:=
 Trie.rec (motive:=fun _=>Nat→Option α) (fun _=>none) (fun v _ _ l r k=>Nat.rec (motive:=fun _=>Option α) v (fun k' _=>Nat.rec (motive:=fun _=>Option α) (l (Nat.div k' 2)) (fun _ _=>r (Nat.div k' 2)) (Nat.mod k' 2)) k) t
noncomputable def Trie.at_ {α β:Type} (t:Trie α) (a:β) (f:Option α→Trie α→Trie α→β):β:=Trie.rec (motive:=fun _=>β) a (fun v l r _ _=>f v l r) t
noncomputable def Trie.set {α:Type} (d:Nat):Trie α→Nat→Option α→Trie α:=
 Nat.rec (motive:=fun _=>Trie α→Nat→Option α→Trie α) (fun t _ _=>t)
  (fun _ ih t k x=>Nat.rec (motive:=fun _=>Trie α) (t.at_ (.node x .leaf .leaf) (fun _ l r=>.node x l r))
   (fun k' _=>Nat.rec (motive:=fun _=>Trie α)
    (t.at_ (.node none (ih .leaf (Nat.div k' 2) x) .leaf) (fun v l r=>.node v (ih l (Nat.div k' 2) x) r))
    (fun _ _=>t.at_ (.node none .leaf (ih .leaf (Nat.div k' 2) x)) (fun v l r=>.node v l (ih r (Nat.div k' 2) x))) (Nat.mod k' 2)) k) d
theorem Trie.BI {α:Type} (k:Nat):(Trie.leaf:Trie α).get k=none:=rfl
theorem Trie.ig {α:Type} (v:Option α) (l r:Trie α):(Trie.node v l r).get 0=v:=rfl
theorem Trie.gw {α:Type} (v:Option α) (l r:Trie α) (j:Nat):(Trie.node v l r).get (2*j+1)=l.get j:=by
 show Nat.rec (motive:=fun _=>Option α) (l.get (Nat.div (2*j) 2)) (fun _ _=>r.get (Nat.div (2*j) 2)) (Nat.mod (2*j) 2)=_;exact M0
theorem Trie.fj {α:Type} (v:Option α) (l r:Trie α) (j:Nat):(Trie.node v l r).get (2*j+2)=r.get j:=by
 show Nat.rec (motive:=fun _=>Option α) (l.get (Nat.div (2*j+1) 2)) (fun _ _=>r.get (Nat.div (2*j+1) 2)) (Nat.mod (2*j+1) 2)=_;exact M3
theorem Trie.M4 {α:Type} (d:Nat) (t:Trie α) (x:Option α):t.set (d+1) 0 x=t.at_ (.node x .leaf .leaf) (fun _ l r=>.node x l r):=rfl
theorem Trie.M5 {α:Type} (d:Nat) (t:Trie α) (j:Nat) (x:Option α):t.set (d+1) (2*j+1) x=t.at_ (.node none (Trie.leaf.set d j x) .leaf) (fun v l r=>.node v (l.set d j x) r):=by
 show Nat.rec (motive:=fun _=>Trie α) (t.at_ (.node none (Trie.leaf.set d (Nat.div (2*j) 2) x) .leaf) (fun v l r=>.node v (l.set d (Nat.div (2*j) 2) x) r)) (fun _ _=>t.at_ (.node none .leaf (Trie.leaf.set d (Nat.div (2*j) 2) x)) (fun v l r=>.node v l (r.set d (Nat.div (2*j) 2) x))) (Nat.mod (2*j) 2)=_;exact M0
theorem Trie.HY {α:Type} (d:Nat) (t:Trie α) (j:Nat) (x:Option α):t.set (d+1) (2*j+2) x=t.at_ (.node none .leaf (Trie.leaf.set d j x)) (fun v l r=>.node v l (r.set d j x)):=by
 show Nat.rec (motive:=fun _=>Trie α) (t.at_ (.node none (Trie.leaf.set d (Nat.div (2*j+1) 2) x) .leaf) (fun v l r=>.node v (l.set d (Nat.div (2*j+1) 2) x) r)) (fun _ _=>t.at_ (.node none .leaf (Trie.leaf.set d (Nat.div (2*j+1) 2) x)) (fun v l r=>.node v l (r.set d (Nat.div (2*j+1) 2) x))) (Nat.mod (2*j+1) 2)=_;exact M3
theorem oU (k:Nat):k=0∨(∃j,k=2*j+1)∨∃j,k=2*j+2:=by
 rcases Nat.eq_zero_or_pos k with h|h
 ·exact .inl h
 ·rcases Nat.mod_two_eq_zero_or_one k with h2|h2
  ·exact .inr (.inr ⟨k / 2 - 1,by omega⟩)
  ·exact .inr (.inl ⟨k / 2,by omega⟩)
theorem Trie.tj {α:Type}:∀(d:Nat) (t:Trie α) (k k':Nat) (v:Option α),k+1<2 ^ d→(t.set d k v).get k'=if k'=k then v else t.get k':=by
 intro d
 induction d with
 |zero=>intro t k k' v h;simp at h
 |succ d ih=>
  intro t k k' v h;have hd:2 ^ (d+1)=2*2 ^ d:=by rw [Nat.pow_succ];omega
  rcases oU k with rfl|⟨j,rfl⟩|⟨j,rfl⟩
  ·rw [M4];cases t with
   |leaf=>
    show(Trie.node v .leaf .leaf).get k'=_;rcases oU k' with rfl|⟨i,rfl⟩|⟨i,rfl⟩
    ·simp [ig]
    ·rw [gw,if_neg aa];rfl
    ·rw [fj,if_neg aa];rfl
   |node u l r=>
    show(Trie.node v l r).get k'=_;rcases oU k' with rfl|⟨i,rfl⟩|⟨i,rfl⟩
    ·simp [ig]
    ·rw [gw,if_neg aa,gw]
    ·rw [fj,if_neg aa,fj]
  ·rw [M5];have hj:j+1<2 ^ d:=aa;cases t with
   |leaf=>
    show(Trie.node none (Trie.leaf.set d j v) .leaf).get k'=_;rcases oU k' with rfl|⟨i,rfl⟩|⟨i,rfl⟩
    ·rw [ig,if_neg aa];rfl
    ·rw [gw,ih _ _ _ _ hj];have:(2*i+1=2*j+1)=(i=j):=by apply propext;omega
     simp only [this,BI]
    ·rw [fj,if_neg aa];rfl
   |node u l r=>
    show(Trie.node u (l.set d j v) r).get k'=_;rcases oU k' with rfl|⟨i,rfl⟩|⟨i,rfl⟩
    ·rw [ig,if_neg aa,ig]
    ·rw [gw,ih _ _ _ _ hj,gw];have:(2*i+1=2*j+1)=(i=j):=by apply propext;omega
     simp only [this]
    ·rw [fj,if_neg aa,fj]
  ·rw [HY];have hj:j+1<2 ^ d:=aa;cases t with
   |leaf=>
    show(Trie.node none .leaf (Trie.leaf.set d j v)).get k'=_;rcases oU k' with rfl|⟨i,rfl⟩|⟨i,rfl⟩
    ·rw [ig,if_neg aa];rfl
    ·rw [gw,if_neg aa];rfl
    ·rw [fj,ih _ _ _ _ hj];have:(2*i+2=2*j+2)=(i=j):=by apply propext;omega
     simp only [this,BI]
   |node u l r=>
    show(Trie.node u l (r.set d j v)).get k'=_;rcases oU k' with rfl|⟨i,rfl⟩|⟨i,rfl⟩
    ·rw [ig,if_neg aa,ig]
    ·rw [gw,if_neg aa,gw]
    ·rw [fj,ih _ _ _ _ hj,fj];have:(2*i+2=2*j+2)=(i=j):=by apply propext;omega
     simp only [this]
structure eK where
 lo:Nat
 G:Nat
structure ir (μ:Type) where
 get:μ→Nat→Option Obj
 set:μ→Nat→Option Obj→μ
 ok:Nat→Bool
 law:∀m k o k',ok k=true→get (set m k o) k'=if k'=k then o else get m k'
noncomputable def Fh:ir (Trie Obj) where
 get m k:=m.get k
 set m k o:=m.set 24 k o
 ok k:=Nat.blt k 16777215
 law m k o k' h:=Trie.tj 24 m k k' o (by simp [Nat.blt] at h;omega)
structure St (μ:Type) where
 next:Nat
 mem:μ
 T:Nat
 W:Nat
variable {μ:Type} {I:ir μ}
structure St.Le (I:ir μ) (s s':St μ):Prop where
 next:s.next≤s'.next
 T:∀k,s.T.testBit k=true→s'.T.testBit k=true
 W:∀k,s.W.testBit k=true→s'.W.testBit k=true
 mem:∀k,s'.W.testBit k=false→I.get s'.mem k=I.get s.mem k
theorem St.Le.refl (s:St μ):St.Le I s s:=⟨Nat.le_refl _,fun _ h=>h,fun _ h=>h,fun _ _=>rfl⟩
theorem St.Le.trans {a b c:St μ} (h:St.Le I a b) (k:St.Le I b c):St.Le I a c:=
 ⟨Nat.le_trans h.next k.next,fun i hi=>k.T i (h.T i hi),fun i hi=>k.W i (h.W i hi),fun i hi=>by
  rw [k.mem i hi];refine h.mem i ?_;cases e:b.W.testBit i
  ·rfl
  ·rw [k.W i e] at hi;cases hi⟩
structure M (I:ir μ) (α:Type):Type where
 run:St μ→Option (α × St μ)
 le:∀s a s',run s=some (a,s')→St.Le I s s'
def M.pure {α:Type} (a:α):M I α:=⟨fun s=>some (a,s),fun s b s' h=>by cases h;exact .refl s⟩
def M.bind {α β:Type} (m:M I α) (f:α→M I β):M I β:=
 ⟨fun s=>match m.run s with
  |none=>none
  |some (a,s1)=>(f a).run s1,fun s b s' h=>by
   cases e:m.run s with
   |none=>rw [e] at h;cases h
   |some x=>obtain⟨a,s1⟩:=x;rw [e] at h;exact(m.le _ _ _ e).trans ((f a).le _ _ _ h)⟩
def fail {α:Type}:M I α:=⟨fun _=>none,fun _ _ _ h=>by cases h⟩
instance:Monad (M I) where
 pure:=M.pure
 bind:=M.bind
theorem pure_run {α:Type} {a b:α} {s s':St μ} (h:(Pure.pure a:M I α).run s=some (b,s')):b=a∧s'=s:=by
 cases h;exact⟨rfl,rfl⟩
theorem ax {α β:Type} {m:M I α} {f:α→M I β} {s s':St μ} {b:β} (h:(m>>=f).run s=some (b,s')):∃a s1,m.run s=some (a,s1)∧(f a).run s1=some (b,s'):=by
 change (M.bind m f).run s=_ at h;simp only [M.bind] at h;cases e:m.run s with
 |none=>rw [e] at h;cases h
 |some x=>obtain⟨a,s1⟩:=x;rw [e] at h;exact⟨a,s1,rfl,h⟩
theorem au {α:Type} {s s':St μ} {b:α} (h:(fail:M I α).run s=some (b,s')):False:=by cases h
theorem dw (n k i:Nat):(n|||1<<<k).testBit i=(n.testBit i||decide (i=k)):=by
 rw [Nat.testBit_or,Nat.testBit_shiftLeft];congr 1;have one:∀j,Nat.testBit 1 j=decide (j=0):=fun j=>by
  rcases j with _|j
  ·rfl
  ·simp [Nat.testBit_succ]
 rw [one];by_cases h:i=k
 ·subst h;simp
 ·by_cases h2:k≤i
  ·have:i - k≠0:=by omega
   simp [this,h]
  ·simp [h2,h]
def rd (k:Nat):M I Obj:=⟨fun s=>match I.get s.mem k with
  |none=>none
  |some o=>some (o,⟨s.next,s.mem,bif s.T.testBit k then s.T else s.T|||1<<<k,s.W⟩),fun s a s' h=>by
 cases e:I.get s.mem k with
 |none=>rw [e] at h;cases h
 |some o=>
  rw [e] at h;cases h;refine⟨Nat.le_refl _,fun i hi=>?_,fun _ h=>h,fun _ _=>rfl⟩;cases hb:s.T.testBit k<;>simp only [hb,cond_true,cond_false,dw,hi,Bool.true_or]⟩
theorem jA {k:Nat} {s s':St μ} {o:Obj} (h:(rd k:M I Obj).run s=some (o,s')):
  I.get s.mem k=some o∧s'.next=s.next∧s'.mem=s.mem∧s'.W=s.W∧s'.T.testBit k=true:=by
 simp only [rd] at h;cases e:I.get s.mem k with
 |none=>rw [e] at h;cases h
 |some o=>
  rw [e] at h;cases h;refine⟨rfl,rfl,rfl,rfl, ?_⟩;cases hb:s.T.testBit k
  ·simp only [cond_false,dw,decide_true,Bool.or_true]
  ·simp only [cond_true,hb]
def wr (lo:eK) (k:Nat) (o:Option Obj):M I Unit:=⟨fun s=>
  bif Nat.ble lo.lo k && I.ok k && (I.get s.mem k).isSome then
   some ((),⟨s.next,I.set s.mem k o,s.T,bif s.W.testBit k then s.W else s.W|||1<<<k⟩)
  else none,fun s a s' h=>by
 cases e:(Nat.ble lo.lo k && I.ok k && (I.get s.mem k).isSome) with
 |false=>rw [e] at h;cases h
 |true=>
  rw [e] at h;cases h;simp only [Bool.and_eq_true] at e;refine⟨Nat.le_refl _,fun _ h=>h,fun i hi=>?_,fun i hi=>?_⟩
  ·cases hb:s.W.testBit k<;>simp only [cond_true,cond_false,dw,hi,Bool.true_or]
  ·simp only [I.law _ _ _ _ e.1.2];rw [if_neg];intro e2;subst e2;cases hb:s.W.testBit i
   ·simp only [hb,cond_false,dw,decide_true,Bool.or_true] at hi;cases hi
   ·simp only [hb,cond_true] at hi;cases hi⟩
theorem qL {lo:eK} {k:Nat} {s s':St μ} {o:Option Obj} {u:Unit} (h:(wr lo k o:M I Unit).run s=some (u,s')):
  lo.lo≤k∧(∃o0,I.get s.mem k=some o0)∧s'.next=s.next∧s'.T=s.T∧(∀i,s'.W.testBit i=(s.W.testBit i||decide (i=k)))∧
   ∀i,I.get s'.mem i=if i=k then o else I.get s.mem i:=by
 simp only [wr] at h;cases e:(Nat.ble lo.lo k && I.ok k && (I.get s.mem k).isSome) with
 |false=>rw [e] at h;cases h
 |true=>
  rw [e] at h;cases h;simp only [Bool.and_eq_true] at e;obtain⟨⟨e1,e2⟩,e3⟩:=e;refine⟨Nat.le_of_ble_eq_true e1,Option.isSome_iff_exists.1 e3,rfl,rfl,fun i=>?_,fun i=>I.law _ _ _ _ e2⟩;cases hb:s.W.testBit k
  ·simp only [cond_false,dw]
  ·by_cases hi:i=k
   ·subst hi;simp [hb]
   ·simp [hi]
def new (o:Obj):M I Nat:=⟨fun s=>
  bif I.ok s.next && !(I.get s.mem s.next).isSome then
   some (s.next,⟨s.next+1,I.set s.mem s.next (some o),s.T,s.W|||1<<<s.next⟩)
  else none,fun s a s' h=>by
 cases e:(I.ok s.next && !(I.get s.mem s.next).isSome) with
 |false=>rw [e] at h;cases h
 |true=>
  rw [e] at h;cases h;simp only [Bool.and_eq_true] at e;refine⟨Nat.le_succ _,fun _ h=>h,fun i hi=>?_,fun i hi=>?_⟩
  ·simp only [dw,hi,Bool.true_or]
  ·simp only [I.law _ _ _ _ e.1];rw [if_neg];intro e2;subst e2;simp only [dw,decide_true,Bool.or_true] at hi;cases hi⟩
theorem zF {s s':St μ} {o:Obj} {k:Nat} (h:(new o:M I Nat).run s=some (k,s')):
  k=s.next∧I.get s.mem k=none∧s'.next=s.next+1∧s'.T=s.T∧(∀i,s'.W.testBit i=(s.W.testBit i||decide (i=k)))∧
   ∀i,I.get s'.mem i=if i=k then some o else I.get s.mem i:=by
 simp only [new] at h;cases e:(I.ok s.next && !(I.get s.mem s.next).isSome) with
 |false=>rw [e] at h;cases h
 |true=>
  rw [e] at h;cases h;simp only [Bool.and_eq_true] at e;obtain⟨e1,e2⟩:=e;refine⟨rfl,by simpa using e2,rfl,rfl,fun i=>dw _ _ _,fun i=>I.law _ _ _ _ e1⟩
abbrev Env:=Nat→Option (Nat × Nat)
inductive VR (E:Env):Value→Value→Prop
 |bool (b:Bool):VR E (.bool b) (.bool b)
 |int (k:IntKind) (n:Int):VR E (.int k n) (.int k n)
 |float (k:FloatKind) (n:Nat):VR E (.float k n) (.float k n)
 |CS (k:FloatKind) (n m:Nat):VR E (.complex k n m) (.complex k n m)
 |string (s:ByteArray):VR E (.string s) (.string s)
 |CT:VR E (.pointer none) (.pointer none)
 |ptr {k o b r:Nat}:E k=some (b,r)→VR E (.pointer (some ⟨k,o,none⟩)) (.pointer (some ⟨b,o,none⟩))
 |qF (n c:Nat):VR E (.slice none n c) (.slice none n c)
 |slice {k o b r:Nat} (n c:Nat):E k=some (b,r)→VR E (.slice (some ⟨k,o,none⟩) n c) (.slice (some ⟨b,o,none⟩) n c)
 |wide {k o b r:Nat} (n c:Nat):E k=some (b,r)→VR E (.slice (some ⟨k,o,some 0⟩) n c) (.slice (some ⟨b,o,none⟩) n (c+r))
 |CU:VR E (.map none) (.map none)
 |map {k b r:Nat}:E k=some (b,r)→VR E (.map (some k)) (.map (some b))
 |func {f:FuncId} {as bs cs ds:Array Value}:as.size=cs.size→(∀a c:Value,∀j:Nat,as[j]?=some a→cs[j]?=some c→VR E a c)→
   bs.size=ds.size→(∀a c:Value,∀j:Nat,bs[j]?=some a→ds[j]?=some c→VR E a c)→VR E (.func (.func f) as bs) (.func (.func f) cs ds)
 |yield {l b r:Nat}:E l=some (b,r)→VR E (.func (.yield l) #[] #[]) (.func (.yield b) #[] #[])
 |CV:VR E .nilFunc .nilFunc
 |iface {v v':Value} (t:TypeId):VR E v v'→VR E (.iface t v) (.iface t v')
 |AK:VR E .nilIface .nilIface
 |agg {as cs:Array Value}:as.size=cs.size→(∀a c:Value,∀j:Nat,as[j]?=some a→cs[j]?=some c→VR E a c)→VR E (.agg as) (.agg cs)
 |tuple {as cs:Array Value}:as.size=cs.size→(∀a c:Value,∀j:Nat,as[j]?=some a→cs[j]?=some c→VR E a c)→VR E (.tuple as) (.tuple cs)
def fU (E:Env) (as cs:Array Value):Prop:=as.size=cs.size∧∀a c:Value,∀j:Nat,as[j]?=some a→cs[j]?=some c→VR E a c
structure Env.Ext (E E':Env) (a b:Nat):Prop where
 keep:∀k x,E k=some x→E' k=some x
 dom:∀k,E' k≠none→E k≠none∨(a≤k∧k<b)
theorem Env.Ext.refl (E:Env) (a:Nat):Env.Ext E E a a:=⟨fun _ _ h=>h,fun _ h=>.inl h⟩
theorem Env.Ext.trans {E E1 E2:Env} {a b c:Nat} (h:Env.Ext E E1 a b) (k:Env.Ext E1 E2 b c) (hab:a≤b) (hbc:b≤c):Env.Ext E E2 a c:=
 ⟨fun i x hi=>k.keep i x (h.keep i x hi),fun i hi=>by
  rcases k.dom i hi with h1|h1
  ·rcases h.dom i h1 with h2|h2
   ·exact .inl h2
   ·exact .inr aa
  ·exact .inr aa⟩
theorem VR.mono {E E':Env} (hE:∀k x,E k=some x→E' k=some x) {v v':Value} (h:VR E v v'):VR E' v v':=by
 induction h with
 |bool b=>exact .bool b
 |int k n=>exact .int k n
 |float k n=>exact .float k n
 |CS k n m=>exact .CS k n m
 |string s=>exact .string s
 |CT=>exact .CT
 |ptr h=>exact .ptr (hE _ _ h)
 |qF n c=>exact .qF n c
 |slice n c h=>exact .slice n c (hE _ _ h)
 |wide n c h=>exact .wide n c (hE _ _ h)
 |CU=>exact .CU
 |map h=>exact .map (hE _ _ h)
 |func h1 h2 h3 h4 i1 i2=>exact .func h1 i1 h3 i2
 |yield h=>exact .yield (hE _ _ h)
 |CV=>exact .CV
 |iface t h ih=>exact .iface t ih
 |AK=>exact .AK
 |agg h1 h2 ih=>exact .agg h1 ih
 |tuple h1 h2 ih=>exact .tuple h1 ih
theorem fU.mono {E E':Env} (hE:∀k x,E k=some x→E' k=some x) {as cs:Array Value} (h:fU E as cs):fU E' as cs:=
 ⟨h.1,fun a c j ha hc=>(h.2 a c j ha hc).mono hE⟩
def fD:Nat→Value→Bool
 |_,.bool _|_,.int _ _|_,.float _ _|_,.complex _ _ _|_,.string _|_,.pointer none|_,.slice none _ _|_,.map none|_,.nilFunc|_,.nilIface=>true
 |n+1,.iface _ v=>fD n v
 |n+1,.agg cs=>cs.toList.all (fD n)
 |n+1,.tuple cs=>cs.toList.all (fD n)
 |_,.func (.func _) ⟨[]⟩ ⟨[]⟩=>true
 |_,_=>false
theorem gp {cs:Array Value} {p:Value→Bool} (h:cs.toList.all p=true) {j:Nat} {a:Value} (ha:cs[j]?=some a):p a=true:=by
 rw [List.all_eq_true] at h;exact h a (by rw [←Array.getElem?_toList] at ha;exact List.mem_of_getElem? ha)
theorem cF (E:Env):∀(n:Nat) (v:Value),fD n v=true→VR E v v:=by
 intro n
 induction n with
 |zero=>
  intro v h;cases v with
  |bool b=>exact .bool b
  |int k n=>exact .int k n
  |float k n=>exact .float k n
  |complex k n m=>exact .CS k n m
  |string s=>exact .string s
  |pointer a=>cases a<;>simp [fD] at h;exact .CT
  |slice a n c=>cases a<;>simp [fD] at h;exact .qF n c
  |map r=>cases r<;>simp [fD] at h;exact .CU
  |chan r=>simp [fD] at h
  |func fn as bs=>
   unfold fD at h;split at h<;>first|(simp at h;done)|skip
   all_goals first
    |cases ‹_=Value.func _ _ _›
    |skip
   all_goals simp_all
   exact .func rfl (fun _ _ j h=>by simp at h) rfl (fun _ _ j h=>by simp at h)
  |nilFunc=>exact .CV
  |iface t v=>simp [fD] at h
  |nilIface=>exact .AK
  |agg cs=>simp [fD] at h
  |tuple cs=>simp [fD] at h
 |succ n ih=>
  intro v h;cases v with
  |bool b=>exact .bool b
  |int k n=>exact .int k n
  |float k n=>exact .float k n
  |complex k n m=>exact .CS k n m
  |string s=>exact .string s
  |pointer a=>cases a<;>simp [fD] at h;exact .CT
  |slice a n c=>cases a<;>simp [fD] at h;exact .qF n c
  |map r=>cases r<;>simp [fD] at h;exact .CU
  |chan r=>simp [fD] at h
  |func fn as bs=>
   unfold fD at h;split at h<;>first|(simp at h;done)|skip
   all_goals simp_all
   exact .func rfl (fun _ _ j h=>by simp at h) rfl (fun _ _ j h=>by simp at h)
  |nilFunc=>exact .CV
  |iface t v=>exact .iface t (ih v h)
  |nilIface=>exact .AK
  |agg cs=>exact .agg rfl fun a c j ha hc=>by rw [ha] at hc;cases hc;exact ih a (gp h ha)
  |tuple cs=>exact .tuple rfl fun a c j ha hc=>by rw [ha] at hc;cases hc;exact ih a (gp h ha)
end Go.Am
/- A part of the proof. Conditions: none. -/
set_option maxRecDepth 100000
set_option maxHeartbeats 8000000
namespace Go.Am
open Go Go.RowKit
variable {μ:Type} {I:ir μ}
theorem VR.MK {E:Env} {as cs:Array Value} {n:Nat} (hs:as.size=cs.size) (hg:as.toList.all (fD n)=true)
  (h:∀a c:Value,∀j:Nat,as[j]?=some a→cs[j]?=some c→fD n a=true→c=a):cs=as:=by
 apply Array.ext hs.symm;intro j h1 h2;exact h as[j] cs[j] j ak ak (gp hg (by simp:as[j]?=some as[j]))
theorem oP {E:Env} {v v':Value} (h:VR E v v'):∀n,fD n v=true→v'=v:=by
 induction h with
 |bool b=>exact fun _ _=>rfl
 |int k n=>exact fun _ _=>rfl
 |float k n=>exact fun _ _=>rfl
 |CS k n m=>exact fun _ _=>rfl
 |string s=>exact fun _ _=>rfl
 |CT=>exact fun _ _=>rfl
 |ptr h=>intro n hg;cases n<;>simp [fD] at hg
 |qF n c=>exact fun _ _=>rfl
 |slice n c h=>intro n hg;cases n<;>simp [fD] at hg
 |wide n c h=>intro n hg;cases n<;>simp [fD] at hg
 |CU=>exact fun _ _=>rfl
 |map h=>intro n hg;cases n<;>simp [fD] at hg
 | @func f as bs cs ds h1 h2 h3 h4 i1 i2=>
  intro n hg;have:as=#[]∧bs=#[]:=by
   obtain⟨la⟩:=as;obtain⟨lb⟩:=bs;cases la with
   |nil=>cases lb with
    |nil=>exact⟨rfl,rfl⟩
    |cons x l=>cases n<;>simp [fD] at hg
   |cons x l=>cases n<;>simp [fD] at hg
  obtain⟨rfl,rfl⟩:=this;have e1:cs=#[]:=Array.eq_empty_of_size_eq_zero h1.symm;have e2:ds=#[]:=Array.eq_empty_of_size_eq_zero h3.symm;rw [e1,e2]
 |yield h=>intro n hg;cases n<;>simp [fD] at hg
 |CV=>exact fun _ _=>rfl
 |iface t h ih=>
  intro n hg;cases n with
  |zero=>simp [fD] at hg
  |succ n=>rw [ih n hg]
 |AK=>exact fun _ _=>rfl
 | @agg as cs h1 h2 ih=>
  exact ML
 | @tuple as cs h1 h2 ih=>
  exact ML
theorem VR.undef (E:Env):VR E undef undef:=.tuple rfl fun a c j h=>by simp at h
inductive OR (P:Program) (E:Env) (r:Nat):Obj→Obj→Prop
 |cells {as cs:Array Value} {e:TypeId}:as.size+r*P.cellsOf e=cs.size→(∀a c:Value,∀j:Nat,as[j]?=some a→cs[j]?=some c→VR E a c)→OR P E r (.cells as e (0,0)) (.cells cs e (0,0))
 |seen {as cs:Array Value} {e:TypeId} {fr:Nat × Nat}:as.size=cs.size→(∀a c:Value,∀j:Nat,as[j]?=some a→cs[j]?=some c→VR E a c)→OR P E r (.cells as e (1,0)) (.cells cs e fr)
 |map {es cs:Array MapEntry} (clock:Nat):es.size=cs.size→(∀a c:MapEntry,∀j:Nat,es[j]?=some a→cs[j]?=some c→c.key=a.key∧c.born=a.born∧VR E a.val c.val)→
   OR P E r (.map es clock) (.map cs clock)
 |iter (s:ByteArray) (p:Nat):OR P E r (.stringIter s p) (.stringIter s p)
 |loop {x y:Loop} {q:Nat}:y.state=x.state→y.pending=x.pending→y.params=x.params→y.assign=x.assign→y.body=x.body→x.tmps.size=y.tmps.size→(∀a c:Value,∀j:Nat,x.tmps[j]?=some a→y.tmps[j]?=some c→VR E a c)→E x.defers=some (y.defers,q)→OR P E r (.loop x) (.loop y)
 |collected:OR P E r (.deferred (some [])) (.deferred (some []))
 |shut:OR P E r (.deferred none) (.deferred none)
theorem OR.mono {P:Program} {E E':Env} {r:Nat} {o co:Obj} (hE:∀k x,E k=some x→E' k=some x) (h:OR P E r o co):OR P E' r o co:=by
 cases h with
 |cells h1 h2=>exact .cells h1 (fun a c j ha hc=>(h2 a c j ha hc).mono hE)
 |seen h1 h2=>exact .seen h1 (fun a c j ha hc=>(h2 a c j ha hc).mono hE)
 |map clock h1 h2=>exact .map clock h1 fun a c j ha hc=>let ⟨x,y,z⟩:=h2 a c j ha hc;⟨x,y,z.mono hE⟩
 |iter s p=>exact .iter s p
 |loop h1 h2 h3 h4 h5 h6 h7 h8=>exact .loop h1 h2 h3 h4 h5 h6 (fun a c j ha hc=>(h7 a c j ha hc).mono hE) (hE _ _ h8)
 |collected=>exact .collected
 |shut=>exact .shut
structure Bs where
 w:World
 E:Env
structure Rel (P:Program) (lo:eK) (w0:Bs) (E:Env) (g:Nat→Option Obj) (w:World):Prop where
 below:Below w0.w.heap.size w0.w w
 tie:∀k o,g k=some o→∃b r co,E k=some (b,r)∧w.heap[b]?=some co∧OR P E r o co
 inj:∀k k' o o' b r r',g k=some o→g k'=some o'→E k=some (b,r)→E k'=some (b,r')→k=k'
 own:∀k b r,lo.lo≤k→E k=some (b,r)→w0.w.heap.size≤b
 old:∀k,k<lo.G→E k=some (k,0)
 kept:∀k x,w0.E k=some x→E k=some x
def dx (I:ir μ) (s s':St μ) (g:Nat→Option Obj):Prop:=∀k,(s'.T.testBit k||s'.W.testBit k)=true→g k=I.get s.mem k
def fN (s s':St μ) (E:Env):Prop:=∀k,s.next≤k→k<s'.next→E k=none
def merge (I:ir μ) (s':St μ) (g:Nat→Option Obj):Nat→Option Obj:=fun k=>if s'.W.testBit k=true then I.get s'.mem k else g k
theorem dx.first {s s1 s':St μ} {g:Nat→Option Obj} (h:dx I s s' g) (hl:St.Le I s1 s'):dx I s s1 g:=fun k hk=>by
 refine h k ?_;rw [Bool.or_eq_true] at hk ⊢;exact hk.imp (hl.T k) (hl.W k)
theorem dx.second {s s1 s':St μ} {g:Nat→Option Obj} (h:dx I s s' g) (hl0:St.Le I s s1) (hl:St.Le I s1 s'):dx I s1 s' (merge I s1 g):=fun k hk=>by
 unfold merge;split
 ·rfl
 ·rename_i hw;rw [h k hk];exact(hl0.mem k (by simpa using hw)).symm
theorem jq {s1 s':St μ} (g:Nat→Option Obj) (hl:St.Le I s1 s'):merge I s' (merge I s1 g)=merge I s' g:=by
 funext k;unfold merge;split
 ·rfl
 ·rename_i hw;rw [if_neg];intro h;exact hw (hl.W k h)
theorem dA {s s':St μ} {g:Nat→Option Obj} (hA:dx I s s' g) (hW:∀k,s'.W.testBit k=s.W.testBit k) (hm:∀k,I.get s'.mem k=I.get s.mem k):merge I s' g=g:=by
 funext k;unfold merge;split
 ·rename_i h;rw [hm,hA k (by rw [h,Bool.or_true])]
 ·rfl
theorem eO {s s':St μ} {g:Nat→Option Obj} {k0:Nat} {o:Option Obj} (hA:dx I s s' g) (hW:∀k,s'.W.testBit k=(s.W.testBit k||decide (k=k0))) (hm:∀k,I.get s'.mem k=if k=k0 then o else I.get s.mem k):
  merge I s' g=fun k=>if k=k0 then o else g k:=by
 funext k;unfold merge;by_cases e:k=k0
 ·subst e;simp [hW,hm]
 ·simp only [hm,e,if_false];split
  ·rename_i h;rw [hA k (by rw [h,Bool.or_true])]
  ·rfl
structure ek (b:Nat) (co:Obj) (w w':World):Prop where
 os:w'.os=w.os
 tape:w'.tape=w.tape
 output:w'.output=w.output
 size:w'.heap.size=w.heap.size
 at_:w'.heap[b]?=some co
 other:∀i,i≠b→w'.heap[i]?=w.heap[i]?
variable {P:Program} {lo:eK} {w0:Bs}
theorem Rel.lt {E:Env} {g:Nat→Option Obj} {w:World} (h:Rel P lo w0 E g w) {k:Nat} {o:Obj} {b r:Nat} (hg:g k=some o) (hE:E k=some (b,r)):b<w.heap.size:=by
 obtain⟨b',r',co,h1,h2,_⟩:=h.tie k o hg;rw [h1] at hE;cases hE;exact(Array.getElem?_eq_some_iff.1 h2).1
theorem Rel.write {E:Env} {g:Nat→Option Obj} {w w':World} (h:Rel P lo w0 E g w) {k0 b r:Nat} {o0 o:Obj} {co:Obj} (hg:g k0=some o0) (hE:E k0=some (b,r)) (JO:lo.lo≤k0)
  (hw:ek b co w w') (ho:OR P E r o co):Rel P lo w0 E (fun k=>if k=k0 then some o else g k) w':=by
 refine⟨?_, ?_, ?_,h.own,h.old,h.kept⟩
 ·exact ME
 ·intro k o' hk;by_cases e:k=k0
  ·subst e;simp at hk;subst hk;exact⟨b,r,co,hE,hw.at_,ho⟩
  ·simp [e] at hk;obtain⟨b',r',S5,h1,h2,h3⟩:=h.tie k o' hk;refine⟨b',r',S5,h1, ?_,h3⟩;rw [hw.other b' ?_]
   ·exact h2
   ·intro eb;subst eb;exact e (h.inj _ _ _ _ _ _ _ hk hg h1 hE)
 ·intro k k' o1 o2 b' r1 r2 h1 h2 e1 e2;have:∀i o',(if i=k0 then some o else g i)=some o'→∃o'',g i=some o'':=fun i o' hi=>by
   by_cases e:i=k0
   ·subst e;exact⟨o0,hg⟩
   ·simp [e] at hi;exact⟨o',hi⟩
  obtain⟨o1',h1'⟩:=this _ _ h1;obtain⟨o2',h2'⟩:=this _ _ h2;exact h.inj _ _ _ _ _ _ _ h1' h2' e1 e2
theorem Rel.kill {E:Env} {g:Nat→Option Obj} {w:World} (h:Rel P lo w0 E g w) (k0:Nat):Rel P lo w0 E (fun k=>if k=k0 then none else g k) w:=by
 have:∀i o',(if i=k0 then none else g i)=some o'→g i=some o':=fun i o' hi=>by
  by_cases e:i=k0
  ·simp [e] at hi
  ·simpa [e] using hi
 exact⟨h.below,fun k o hk=>h.tie k o (this k o hk),fun k k' o o' b r r' h1 h2=>h.inj k k' o o' b r r' (this _ _ h1) (this _ _ h2),h.own,h.old,h.kept⟩
def Env.put (E:Env) (k b r:Nat):Env:=fun i=>if i=k then some (b,r) else E i
theorem Env.fF {E:Env} {k b r:Nat} (h:E k=none):∀i x,E i=some x→E.put k b r i=some x:=fun i x hi=>by
 unfold Env.put;split
 ·rename_i e;subst e;rw [h] at hi;cases hi
 ·exact hi
theorem Rel.name {E:Env} {g:Nat→Option Obj} {w w':World} (h:Rel P lo w0 E g w) {k b r:Nat} {o co:Obj} (hk:E k=none) (hb:Below w0.w.heap.size w0.w w') (pz:w0.w.heap.size≤b)
  (hat:w'.heap[b]?=some co) (abv:∀i,i≠b→i<w.heap.size→w'.heap[i]?=w.heap[i]?)
  (hun:∀i o' r',g i=some o'→E i≠some (b,r')) (ho:OR P (E.put k b r) r o co):Rel P lo w0 (E.put k b r) (fun i=>if i=k then some o else g i) w':=by
 have pZ:=Env.fF (b:=b) (r:=r) hk;have hne:∀i o',g i=some o'→i≠k:=fun i o' hi e=>by
  subst e;obtain⟨b',r',S5,h1,_⟩:=h.tie _ _ hi;rw [hk] at h1;cases h1
 refine⟨hb, ?_, ?_, ?_, ?_,fun i x hi=>pZ i x (h.kept i x hi)⟩
 ·intro i o' hi;by_cases e:i=k
  ·subst e;simp at hi;subst hi;exact⟨b,r,co,by simp [Env.put],hat,ho⟩
  ·simp [e] at hi;obtain⟨b',r',S5,h1,h2,h3⟩:=h.tie i o' hi;refine⟨b',r',S5,pZ _ _ h1, ?_,h3.mono pZ⟩;rw [abv b' (fun eb=>hun i o' r' hi (eb ▸ h1)) (Array.getElem?_eq_some_iff.1 h2).1];exact h2
 ·intro i i' o1 o2 b' r1 r2 h1 h2 e1 e2;by_cases e:i=k
  ·by_cases e':i'=k
   ·rw [e,e']
   ·subst e;simp [e'] at h2;simp [Env.put] at e1;simp [Env.put,e'] at e2;obtain⟨rfl,rfl⟩:=e1;exact absurd e2 (hun _ _ _ h2)
  ·by_cases e':i'=k
   ·subst e';simp [e] at h1;simp [Env.put] at e2;simp [Env.put,e] at e1;obtain⟨rfl,rfl⟩:=e2;exact absurd e1 (hun _ _ _ h1)
   ·simp [e] at h1;simp [e'] at h2;simp [Env.put,e] at e1;simp [Env.put,e'] at e2;exact h.inj _ _ _ _ _ _ _ h1 h2 e1 e2
 ·intro i b' r' hi he;by_cases e:i=k
  ·subst e;simp [Env.put] at he;omega
  ·simp [Env.put,e] at he;exact h.own i b' r' hi he
 ·intro i hi;exact pZ _ _ (h.old i hi)
def az (P:Program) (lo:eK) (w0:Bs) {α β:Type} (E:Env) (H:(Nat→Option Obj)→Prop) (m:M I α) (c:Sem β) (R:Env→α→β→Prop):Prop:=
 ∀s a s',m.run s=some (a,s')→∀E1 g w,(∀k x,E k=some x→E1 k=some x)→Rel P lo w0 E1 g w→dx I s s' g→fN s s' E1→H g→
  ∃E' b w',c.run P w=.ok b w'∧Env.Ext E1 E' s.next s'.next∧R E' a b∧Rel P lo w0 E' (merge I s' g) w'
def S4:(Nat→Option Obj)→Prop:=fun _=>True
section
variable {α β γ δ:Type} {E:Env} {H:(Nat→Option Obj)→Prop}
theorem fN.first {s s1 s':St μ} {E:Env} (h:fN s s' E) (hl:s1.next≤s'.next):fN s s1 E:=fun k h1 h2=>h k h1 aa
theorem fN.second {s s1 s':St μ} {E E1:Env} (h:fN s s' E) (hx:Env.Ext E E1 s.next s1.next) (hl:s.next≤s1.next):fN s1 s' E1:=fun k h1 h2=>by
 cases e:E1 k with
 |none=>rfl
 |some x=>
  rcases hx.dom k (by simp [e]) with h3|h3
  ·exact absurd (h k aa h2) h3
  ·omega
theorem az.bind {m:M I α} {c:Sem β} {f:α→M I γ} {f':β→Sem δ} {R:Env→α→β→Prop} {R':Env→γ→δ→Prop}
  (h:az P lo w0 E H m c R) (h2:∀E1 a b,(∀k x,E k=some x→E1 k=some x)→R E1 a b→az P lo w0 E1 S4 (f a) (f' b) R'):az P lo w0 E H (m>>=f) (c>>=f') R':=by
 intro s a s' hr E1 g w hE hR hA hF hH;obtain⟨a1,s1,hr1,hr2⟩:=ax hr;have l1:=m.le _ _ _ hr1;have l2:=(f a1).le _ _ _ hr2;obtain⟨E2,b,w1,hc,hx,hab,pq⟩:=h s a1 s1 hr1 E1 g w hE hR (hA.first l2) (hF.first l2.next) hH;obtain⟨E3,d,w2,hc2,hx2,ki,qI⟩:=h2 E2 a1 b (fun k x hk=>hx.keep k x (hE k x hk)) hab s1 a s' hr2 E2 (merge I s1 g) w1 (fun _ _ h=>h) pq (hA.second l1 l2) (hF.second hx l1.next) trivial;refine⟨E3,d,w2, ?_,hx.trans hx2 l1.next l2.next,ki, ?_⟩
 ·rw [Sem.run_bind,hc];exact hc2
 ·rw [jq g l2] at qI;exact qI
theorem az.leaf {a:α} {c:Sem β} {R:Env→α→β→Prop} (h:∀E1 g w,(∀k x,E k=some x→E1 k=some x)→Rel P lo w0 E1 g w→H g→∃b,c.run P w=.ok b w∧R E1 a b):az P lo w0 E H (Pure.pure a:M I α) c R:=by
 intro s a' s' hr E1 g w hE hR hA hF hH;obtain⟨rfl,rfl⟩:=pure_run hr;obtain⟨b,hb,hab⟩:=h E1 g w hE hR hH;refine⟨E1,b,w,hb,.refl _ _,hab, ?_⟩;rw [dA hA (fun _=>rfl) (fun _=>rfl)];exact hR
theorem az.pure {a:α} {b:β} {R:Env→α→β→Prop} (h:∀E1,(∀k x,E k=some x→E1 k=some x)→R E1 a b):az P lo w0 E H (Pure.pure a:M I α) (Pure.pure b) R:=
 az.leaf fun E1 g w hE _ _=>⟨b,rfl,h E1 hE⟩
theorem az.fail {c:Sem β} {R:Env→α→β→Prop}:az P lo w0 E H (Am.fail:M I α) c R:=fun s a s' hr=>(au hr).elim
theorem az.rd {k:Nat} {f:Obj→M I α} {c:Sem β} {R:Env→α→β→Prop} (h:∀o,az P lo w0 E (fun g=>H g∧g k=some o) (f o) c R):az P lo w0 E H (rd k>>=f) c R:=by
 intro s a s' hr E1 g w hE hR hA hF hH;obtain⟨o,s1,hr1,hr2⟩:=ax hr;have l1:=(Am.rd k).le _ _ _ hr1;have l2:=(f o).le _ _ _ hr2;obtain⟨e1,e2,e3,e4,e5⟩:=jA hr1;have hm:merge I s1 g=g:=dA (hA.first l2) (fun k=>by rw [e4]) (fun k=>by rw [e3]);have gY:dx I s1 s' g:=Bj;have hg:g k=some o:=Mf;obtain⟨E2,b,w1,h1,h2,h3,h4⟩:=h o s1 a s' hr2 E1 g w hE hR gY (fun i h1 h2=>hF i aa h2) ⟨hH,hg⟩;exact⟨E2,b,w1,h1,by rw [←e2];exact h2,h3,h4⟩
theorem az.wr {k:Nat} {o:Obj} {a:α} {c:Sem β} {R:Env→α→β→Prop} (h:∀E1 g w,(∀k x,E k=some x→E1 k=some x)→Rel P lo w0 E1 g w→H g→∀o0,g k=some o0→lo.lo≤k→
  ∃b w' bl r co,c.run P w=.ok b w'∧E1 k=some (bl,r)∧ek bl co w w'∧OR P E1 r o co∧R E1 a b):az P lo w0 E H (wr lo k (some o)>>=fun _=>(Pure.pure a:M I α)) c R:=by
 intro s a' s' hr E1 g w hE hR hA hF hH;obtain⟨u,s1,hr1,hr2⟩:=ax hr;obtain⟨rfl,rfl⟩:=pure_run hr2;obtain⟨e1,⟨o0,e2⟩,e3,e4,e5,e6⟩:=qL hr1;have hg:g k=some o0:=by rw [hA k (by rw [e5];simp),e2]
 obtain⟨b,w',bl,r,co,h1,h2,h3,h4,h5⟩:=h E1 g w hE hR hH o0 hg e1;refine⟨E1,b,w',h1,⟨fun _ _ h=>h,fun _ h=>.inl h⟩,h5, ?_⟩;rw [eO hA e5 e6];exact hR.write hg h2 e1 h3 h4
theorem az.new {o:Obj} {f:Nat→α} {c:Sem β} {R:Env→α→β→Prop} (h:∀E1 g w k,(∀k x,E k=some x→E1 k=some x)→Rel P lo w0 E1 g w→H g→E1 k=none→
  ∃b w' r co,c.run P w=.ok b w'∧Below w0.w.heap.size w0.w w'∧w'.heap[w.heap.size]?=some co∧(∀i,i<w.heap.size→w'.heap[i]?=w.heap[i]?)∧OR P (E1.put k w.heap.size r) r o co∧R (E1.put k w.heap.size r) (f k) b):
  az P lo w0 E H (new o>>=fun k=>(Pure.pure (f k):M I α)) c R:=by
 intro s a' s' hr E1 g w hE hR hA hF hH;obtain⟨k,s1,hr1,hr2⟩:=ax hr;obtain⟨rfl,rfl⟩:=pure_run hr2;obtain⟨rfl,e2,e3,e4,e5,e6⟩:=zF hr1;have hk:E1 s.next=none:=hF s.next (Nat.le_refl _) aa;obtain⟨b,w',r,co,h1,h2,h3,h4,h5,h6⟩:=h E1 g w s.next hE hR hH hk;refine⟨E1.put s.next w.heap.size r,b,w',h1,⟨Env.fF hk,fun i hi=>?_⟩,h6, ?_⟩
 ·exact MM
 ·rw [eO hA e5 e6];refine hR.name hk h2 hR.below.size h3 (fun i _ hi=>h4 i hi) (fun i o' r' hi he=>?_) h5;exact absurd (hR.lt hi he) (Nat.lt_irrefl _)
theorem az.left {m:M I α} {c:Sem β} {b:β} {f':β→Sem δ} {R:Env→α→δ→Prop} (hc:∀w,c.run P w=.ok b w) (h:az P lo w0 E H m (f' b) R):az P lo w0 E H m (c>>=f') R:=by
 intro s a s' hr E1 g w hE hR hA hF hH;obtain⟨E2,d,w1,h1,h2⟩:=h s a s' hr E1 g w hE hR hA hF hH;exact⟨E2,d,w1,by rw [Sem.run_bind,hc];exact h1,h2⟩
theorem az.pH {m:M I α} {c c':Sem β} {R:Env→α→β→Prop} (hc:∀w,c'.run P w=c.run P w) (h:az P lo w0 E H m c R):az P lo w0 E H m c' R:=by
 intro s a s' hr E1 g w hE hRl hA hF hH;obtain⟨E2,d,w1,h1,h2,h3,h4⟩:=h s a s' hr E1 g w hE hRl hA hF hH;exact⟨E2,d,w1,by rw [hc];exact h1,h2,h3,h4⟩
theorem az.weak {m:M I α} {c:Sem β} {R:Env→α→β→Prop} {H':(Nat→Option Obj)→Prop} (h:az P lo w0 E H m c R) (hH:∀g,H' g→H g):az P lo w0 E H' m c R:=
 fun s a s' hr E1 g w hE hRl hA hF hH'=>h s a s' hr E1 g w hE hRl hA hF (hH g hH')
end
end Go.Am
/- A part of the proof. Conditions: none. -/
set_option maxRecDepth 100000
set_option maxHeartbeats 8000000
namespace Go.Am
open Go Go.RowKit
variable {μ:Type} {I:ir μ} {P:Program} {lo:eK} {w0:Bs} {E:Env} {H:(Nat→Option Obj)→Prop}
def fZ {α:Type} (P:Program):Sem α→Option α
 | .pure a=>some a
 | .program k=>fZ P (k P)
 | .mark _ k=>fZ P k
 |_=>none
theorem lN {α:Type} {c:Sem α} {b:α} (h:fZ P c=some b) (w:World):c.run P w=.ok b w:=by
 induction c with
 |pure a=>simp [fZ] at h;subst h;rfl
 |program k ih=>simp only [fZ] at h;exact ih P h
 |mark m k ih=>simp only [fZ] at h;exact ih h
 |_=>simp [fZ] at h
def arg (ev:Operand→Option Value) (x:Operand):M I Value:=match ev x with
 |some v=>pure v
 |none=>fail
theorem ko {α β:Type} (a:α) (f:α→M I β):((Pure.pure a:M I α)>>=f).run=(f a).run:=rfl
theorem az.congr {α β:Type} {m m':M I α} {c:Sem β} {R:Env→α→β→Prop} (he:m.run=m'.run) (h:az P lo w0 E H m' c R):az P lo w0 E H m c R:=
 fun s a s' hr=>h s a s' (by rw [←he];exact hr)
theorem az.arg {α β:Type} {ev:Operand→Option Value} {ρ:Operand→Value} {x:Operand} {f:Value→M I α} {c:Sem β} {R:Env→α→β→Prop}
  (hρ:∀x v,ev x=some v→VR E v (ρ x)) (h:∀v,VR E v (ρ x)→az P lo w0 E H (f v) c R):az P lo w0 E H (arg ev x>>=f) c R:=by
 unfold Am.arg;cases e:ev x with
 |none=>exact fun s a s' hr=>by obtain⟨a1,s1,h1,h2⟩:=ax hr;exact(au h1).elim
 |some v=>exact az.congr (ko v f) (h v (hρ x v e))
theorem Rel.cells {g:Nat→Option Obj} {w:World} (h:Rel P lo w0 E g w) {k:Nat} {c:Array Value} {e:TypeId} {fr:Nat × Nat} (hg:g k=some (.cells c e fr)) {b r:Nat} (hE:E k=some (b,r)):
  ∃cs Ra,w.heap[b]?=some (.cells cs e Ra)∧c.size≤cs.size∧(fr=(0,0)→Ra=(0,0)∧c.size+r*P.cellsOf e=cs.size)∧∀a v:Value,∀j:Nat,c[j]?=some a→cs[j]?=some v→VR E a v:=by
 obtain⟨b',r',co,h1,h2,h3⟩:=h.tie k _ hg;rw [h1] at hE;cases hE;cases h3 with
 |cells hs hv=>exact⟨_,_,h2,by omega,fun _=>⟨rfl,hs⟩,hv⟩
 |seen hs hv=>exact⟨_,_,h2,by omega,fun h=>absurd h ai,hv⟩
theorem info_of_underlying {t:TypeId} {d:TypeDesc} (h:P.underlying t=some d):∃i,P.info? t=some i:=by
 unfold Program.underlying at h;cases hi:P.info? t with
 |none=>rw [hi] at h;cases h
 |some i=>exact⟨i,rfl⟩
theorem ot {t:TypeId} {i:TypeInfo} (h:P.info? t=some i):P.cellsOf t=i.size:=by simp [Program.cellsOf,h]
def AH (P:Program) (t:TypeId):Option Bool:=match P.underlying t with
 |some (.struct _)=>some true
 |some (.array _ _)=>some true
 |some _=>some false
 |none=>none
theorem pG {t:TypeId} {b:Bool} (h:AH P t=some b) (w:World):(isAgg t).run P w=.ok b w:=by
 unfold AH at h;split at h<;>first|(cases h;done)|skip
 all_goals
  rename_i hu;cases h;simp [isAgg,run_underlying hu]
theorem wY {t:TypeId} {b:Bool} (h:AH P t=some b):∃i,P.info? t=some i:=by
 unfold AH at h;split at h
 ·rename_i hu;exact info_of_underlying hu
 ·rename_i hu;exact info_of_underlying hu
 ·rename_i hu;exact info_of_underlying hu
 ·cases h
def loadAt (P:Program) (t:TypeId) (k o:Nat):M I Value:=do
 match←rd k with
 | .cells c _ _=>
  match AH P t with
  |some true=>bif Nat.ble (o+P.cellsOf t) c.size then pure (.agg ((c.toList.drop o).take (P.cellsOf t)).toArray) else fail
  |some false=>match c[o]? with
   |some v=>pure v
   |none=>fail
  |none=>fail
 |_=>fail
def AJ (P:Program) (t:TypeId):Value→M I Value
 | .pointer (some ⟨k,o,none⟩)=>loadAt P t k o
 |_=>fail
theorem eN (b o j:Nat):(⟨b,o,none⟩:Addr).add j=⟨b,o+j,none⟩:=by unfold Addr.add;split<;>simp_all
theorem cell_of {w:World} {b:Nat} {cs:Array Value} {e:TypeId} {fr:Nat × Nat} (h:w.heap[b]?=some (.cells cs e fr)) (o:Nat):w.cell? ⟨b,o,none⟩=cs[o]?:=by
 simp [World.cell?,h]
theorem cM (c:Array Value) (o n j:Nat):((c.toList.drop o).take n)[j]?=if j<n then c[o+j]? else none:=by
 rw [List.getElem?_take];split
 ·simp
 ·rfl
theorem ua {t:TypeId} {k o b r:Nat} (hk:E k=some (b,r)):az P lo w0 E H (loadAt P t k o:M I Value) (loadVar t ⟨b,o,none⟩) VR:=by
 unfold loadAt;refine az.rd fun ob=>?_
 cases ob with
 |cells c e fr=>
  cases ha:AH P t with
  |none=>exact az.fail
  |some bb=>
   obtain⟨i,hi⟩:=wY ha;cases bb with
   |true=>
    cases hb:Nat.ble (o+P.cellsOf t) c.size with
    |false=>simp only [hb];exact az.fail
    |true=>
     simp only [hb];refine az.leaf fun E1 g w hE hR ⟨_,hg⟩=>?_
     obtain⟨cs,Ra,h1,h2,_,h3⟩:=hR.cells hg (hE _ _ hk);have hle:=Nat.le_of_ble_eq_true hb;have hlen:((cs.toList.drop o).take (P.cellsOf t)).length=P.cellsOf t:=cr;have hl:=run_loadCells_list (P:=P) w ⟨b,o,none⟩ ((cs.toList.drop o).take (P.cellsOf t)) (fun j v hj=>by
      rw [cM] at hj;split at hj
      ·rw [eN,cell_of h1];exact hj
      ·cases hj)
     rw [hlen] at hl;refine⟨.agg ((cs.toList.drop o).take (P.cellsOf t)).toArray, ?_, ?_⟩
     ·have hsz:(sizeOf t).run P w=.ok (P.cellsOf t) w:=run_sizeOf w hi;simp [loadVar,pG ha,hsz,hl]
     ·refine .agg cr fun a v j hj hv=>?_
      simp only [List.getElem?_toArray,cM] at hj hv;split at hj
      ·rw [if_pos eL] at hv;exact h3 a v _ hj hv
      ·cases hj
   |false=>
    cases hc:c[o]? with
    |none=>simp only [hc];exact az.fail
    |some v=>
     simp only [hc];refine az.leaf fun E1 g w hE hR ⟨_,hg⟩=>?_
     obtain⟨cs,Ra,h1,h2,_,h3⟩:=hR.cells hg (hE _ _ hk);have ho:o<cs.size:=by have:=(Array.getElem?_eq_some_iff.1 hc).1;omega
     refine⟨cs[o], ?_,h3 v _ o hc (by simp [ho])⟩;simp [loadVar,pG ha,cell_of h1,ho]
 |_=>exact az.fail
theorem Gl {t:TypeId} {v v':Value} (h:VR E v v'):az P lo w0 E H (AJ P t v:M I Value) (Instr.loadAt t v') VR:=by
 unfold AJ;split
 ·cases h with
  |ptr hk=>exact az.left (b:=_) (fun w=>rfl) (ua hk)
 ·exact az.fail
theorem VR.cells {v v':Value} (h:VR E v v'):fU E v.cells v'.cells:=by
 have one:∀{x x':Value},VR E x x'→fU E #[x] #[x']:=fun {x x'} hx=>⟨rfl,fun a c j ha hc=>by
  rcases j with _|j
  ·simp at ha hc;subst ha;subst hc;exact hx
  ·simp at ha⟩
 cases h with
 |agg h1 h2=>exact⟨h1,h2⟩
 |bool b=>exact one (.bool b)
 |int k n=>exact one (.int k n)
 |float k n=>exact one (.float k n)
 |CS k n m=>exact one (.CS k n m)
 |string s=>exact one (.string s)
 |CT=>exact one .CT
 |ptr h=>exact one (.ptr h)
 |qF n c=>exact one (.qF n c)
 |slice n c h=>exact one (.slice n c h)
 |wide n c h=>exact one (.wide n c h)
 |CU=>exact one .CU
 |map h=>exact one (.map h)
 |func h1 h2 h3 h4=>exact one (.func h1 h2 h3 h4)
 |yield h=>exact one (.yield h)
 |CV=>exact one .CV
 |iface t h=>exact one (.iface t h)
 |AK=>exact one .AK
 |tuple h1 h2=>exact one (.tuple h1 h2)
theorem VR.one {v v':Value} (h:VR E v v'):v'.oneCell'=v.oneCell':=by cases h<;>rfl
def lO (c:Array Value) (o:Nat) (vs:List Value):Array Value:=(c.toList.take o++vs++c.toList.drop (o+vs.length)).toArray
theorem kP (c:Array Value) (o:Nat) (vs:List Value) (h:o+vs.length≤c.size) (j:Nat):(lO c o vs)[j]?=if j<o then c[j]? else if j<o+vs.length then vs[j - o]? else c[j]?:=by
 have h1:(c.toList.take o).length=o:=cr;unfold lO;simp only [List.getElem?_toArray,List.append_assoc];by_cases h2:j<o
 ·rw [List.getElem?_append_left aa,List.getElem?_take,if_pos h2,if_pos h2];simp
 ·rw [List.getElem?_append_right aa,h1,if_neg h2];by_cases h3:j<o+vs.length
  ·rw [List.getElem?_append_left aa,if_pos h3]
  ·rw [List.getElem?_append_right aa,if_neg h3,List.getElem?_drop];rw [show o+vs.length+(j - o - vs.length)=j by omega];simp
theorem rK (c:Array Value) (o:Nat) (vs:List Value) (h:o+vs.length≤c.size):(lO c o vs).size=c.size:=by
 unfold lO;simp;omega
theorem CW {c cs:Array Value} {o:Nat} {vs yC:List Value} (h:o+vs.length≤c.size) (hc:c.size≤cs.size) (hl:vs.length=yC.length)
  (h1:∀a v:Value,∀j:Nat,c[j]?=some a→cs[j]?=some v→VR E a v) (h2:∀a v:Value,∀j:Nat,vs[j]?=some a→yC[j]?=some v→VR E a v):
  ∀a v:Value,∀j:Nat,(lO c o vs)[j]?=some a→(lO cs o yC)[j]?=some v→VR E a v:=by
 intro a v j ha hv;rw [kP c o vs h] at ha;rw [kP cs o yC aa] at hv;by_cases e:j<o
 ·rw [if_pos e] at ha hv;exact h1 a v j ha hv
 ·rw [if_neg e] at ha hv;by_cases e2:j<o+vs.length
  ·rw [if_pos e2] at ha;rw [if_pos aa] at hv;exact h2 a v _ ha hv
  ·rw [if_neg e2] at ha;rw [if_neg aa] at hv;exact h1 a v j ha hv
theorem nO {w:World} {b:Nat} {old cs:Array Value} {t:TypeId} {fr:Nat × Nat} (h:w.heap[b]?=some (.cells old t fr)):ek b (.cells cs t fr) w (w.setRow b cs):=
 ⟨rfl,rfl,rfl,by simp,setRow_heap w b old cs t fr h,fun i hi=>setRow_other w b i cs hi⟩
def JN (lo:eK) (k o:Nat) (vs:List Value):M I Unit:=do
 match←rd k with
 | .cells c e (0,0)=>bif Nat.ble (o+vs.length) c.size && vs.all Value.oneCell' then wr lo k (some (.cells (lO c o vs) e (0,0)))>>=fun _=>pure () else fail
 |_=>fail
theorem lQ {k o b r:Nat} {vs yC:List Value} (hk:E k=some (b,r)) (hl:vs.length=yC.length) (hv:∀a v:Value,∀j:Nat,vs[j]?=some a→yC[j]?=some v→VR E a v):
  az P lo w0 E H (JN lo k o vs:M I Unit) (storeCells ⟨b,o,none⟩ yC) (fun _ _ _=>True):=by
 unfold JN;refine az.rd fun ob=>?_
 split
 ·rename_i c e;cases hb:(Nat.ble (o+vs.length) c.size && vs.all Value.oneCell') with
  |false=>exact az.fail
  |true=>
   simp only [Bool.and_eq_true] at hb;have hle:=Nat.le_of_ble_eq_true hb.1;refine az.wr fun E1 g w hE hR ⟨_,hg⟩ o0 hg0 JO=>?_
   obtain⟨cs,Ra,h1,h2,h4,h3⟩:=hR.cells hg (hE _ _ hk);obtain⟨rfl,h5⟩:=h4 rfl;have yD:∀v∈yC,v.oneCell'=true:=fun v hv'=>by
    obtain⟨j,hj,rfl⟩:=List.getElem_of_mem hv';have hj':j<vs.length:=aa;have:=(hv vs[j] yC[j] j (by simp [hj']) (by simp [hj])).one;rw [this];exact List.all_eq_true.1 hb.2 _ (List.getElem_mem _)
   have hst:=run_storeCells_at P b o e yC 0 cs w h1 aa yD;refine⟨(),_,b,r,.cells (lO cs o yC) e (0,0),hst,hE _ _ hk,nO h1,.cells ?_ ?_,trivial⟩
   ·rw [rK _ _ _ aa,rK _ _ _ aa];exact h5
   ·exact CW hle h2 hl h3 fun a v j ha hv'=>(hv a v j ha hv').mono hE
 ·exact az.fail
def CX (P:Program) (lo:eK) (t:TypeId) (p v:Value):M I Unit:=match p with
 | .pointer (some ⟨k,o,none⟩)=>match P.info? t with
  |some i=>bif Nat.beq v.cells.size i.size then JN lo k o v.cells.toList else fail
  |none=>fail
 |_=>fail
theorem CY {t:TypeId} {p p' v v':Value} (hp:VR E p p') (hv:VR E v v'):az P lo w0 E H (CX P lo t p v:M I Unit) (Instr.storeAt t p' v') (fun _ _ _=>True):=by
 unfold CX;split
 ·cases hp with
  |ptr hk=>
   cases hi:P.info? t with
   |none=>exact az.fail
   |some i=>
    cases hb:Nat.beq v.cells.size i.size with
    |false=>simp only [hb];exact az.fail
    |true=>
     simp only [hb];have hsz:=Nat.eq_of_beq_eq_true hb;have hc:=hv.cells;refine az.pH (c:=storeCells _ v'.cells.toList) (fun w=>?_) (lQ hk (by simpa using hc.1) fun a u j ha hu=>hc.2 a u j jk (by simpa using hu));have:¬(v'.cells.size≠i.size):=by rw [←hc.1,hsz];simp
     simp [Instr.storeAt,Instr.sureAddr,storeVar,sizeOf,typeInfo,hi,this]
 ·exact az.fail
theorem fK (w:World) (o:Obj):(w.alloc o).heap[w.heap.size]?=some o:=heap_alloc_new w o
theorem Rel.alloc {g:Nat→Option Obj} {w:World} (h:Rel P lo w0 E g w) (o:Obj):Below w0.w.heap.size w0.w (w.alloc o):=h.below.alloc h.below.size o
def aay (e:TypeId) (cs:Array Value):M I Value:=new (.cells cs e (0,0))>>=fun k=>pure (.pointer (some ⟨k,0,none⟩))
theorem AL {e:TypeId} {cs cs':Array Value} (h:fU E cs cs') {c:Sem Value} (hc:∀w,c.run P w=.ok (.pointer (some ⟨w.heap.size,0,none⟩)) (w.alloc (.cells cs' e (0,0)))):az P lo w0 E H (aay e cs:M I Value) c VR:=
 az.new fun E1 g w k hE hR _ hk=>⟨_,_,0,_,hc w,hR.alloc _,fK w _,fun i hi=>Below.heap_alloc w _ i hi,
  .cells (by rw [Nat.zero_mul];exact h.1) (fun a v j ha hv=>((h.2 a v j ha hv).mono hE).mono (Env.fF hk)),.ptr (r:=0) (by simp [Env.put])⟩
def zeroOf (P:Program) (t:TypeId):Option Value:=match P.info? t with
 |some i=>match i.zero with
  |some z=>bif fD 3 z then some z else none
  |none=>none
 |none=>none
theorem ct {t:TypeId} {z:Value} (h:zeroOf P t=some z) (w:World):(zeroValue t).run P w=.ok z w∧fD 3 z=true:=by
 unfold zeroOf at h;split at h
 ·rename_i i hi;split at h
  ·rename_i z' hz;cases hg:fD 3 z' with
   |false=>simp [hg] at h
   |true=>
    simp [hg] at h;subst h;exact⟨by simp [zeroValue,typeInfo,hi,hz],hg⟩
  ·cases h
 ·cases h
def CZ (P:Program) (t:TypeId):M I Value:=match zeroOf P t with
 |some z=>aay t z.cells
 |none=>fail
theorem C0 {t:TypeId}:az P lo w0 E H (CZ P t:M I Value) (Instr.alloc t true (.tuple #[])) VR:=by
 unfold CZ;split
 ·rename_i z hz;refine AL (cF E 3 z (ct hz default).2).cells fun w=>?_
  simp [Instr.alloc,(ct hz w).1,newVar,newRow]
 ·exact az.fail
def afx (t:TypeId) (v:Value):M I Value:=aay t v.cells
theorem JP {t:TypeId} {v v':Value} (h:VR E v v'):az P lo w0 E H (afx t v:M I Value) (Instr.box t v') VR:=
 AL h.cells fun w=>by simp [Instr.box,newVar,newRow]
end Go.Am
/- A part of the proof. Conditions: none. -/
set_option maxRecDepth 100000
set_option maxHeartbeats 8000000
namespace Go.Am
open Go Go.RowKit
variable {μ:Type} {I:ir μ} {P:Program} {lo:eK} {w0:Bs} {E:Env} {H:(Nat→Option Obj)→Prop}
theorem az.val {v:Value} {c:Sem Value} (h:∃v',(∀w,c.run P w=.ok v' w)∧VR E v v'):az P lo w0 E H (Pure.pure v:M I Value) c VR:=by
 obtain⟨v',h1,h2⟩:=h;exact az.leaf fun E1 g w hE _ _=>⟨v',h1 w,h2.mono hE⟩
def yP (P:Program) (t:TypeId) (x:Value):M I Value:=match P.underlying t with
 |some (.interface _)=>fail
 |some _=>pure (.iface t x)
 |none=>fail
theorem A2 {t:TypeId} {x x':Value} (h:VR E x x'):az P lo w0 E H (yP P t x:M I Value) (Instr.makeInterface t x') VR:=by
 unfold yP;split
 ·exact az.fail
 ·rename_i d hn hd;refine az.val ⟨.iface t x',fun w=>run_makeInterface w t x' ?_,.iface t h⟩;unfold Program.concrete;rw [hd];cases d<;>first|rfl|exact absurd rfl (hn _)
 ·exact az.fail
def yQ (P:Program) (x:Value) (t:TypeId) (ok:Bool):M I Value:=match P.underlying t with
 |some (.interface _)=>fail
 |none=>fail
 |some _=>match x with
  | .iface t' v=>bif Nat.beq t' t then pure (bif ok then .tuple #[v,.bool true] else v) else
   bif ok then match zeroOf P t with
    |some z=>pure (.tuple #[z,.bool false])
    |none=>fail
   else fail
  | .nilIface=>bif ok then match zeroOf P t with
    |some z=>pure (.tuple #[z,.bool false])
    |none=>fail
   else fail
  |_=>fail
theorem VR.pair {a a' b b':Value} (h:VR E a a') (k:VR E b b'):VR E (.tuple #[a,b]) (.tuple #[a',b']):=
 .tuple rfl fun x y j hx hy=>by
  rcases j with _|_|j
  ·simp at hx hy;subst hx;subst hy;exact h
  ·simp at hx hy;subst hx;subst hy;exact k
  ·simp at hx
theorem mb {t:TypeId} {d:TypeDesc} (hd:P.underlying t=some d) (hn:∀ms,d≠ .interface ms) (v:Value) (xT:TypeId) (ok:Bool) (w:World):
  (Instr.typeAssert (.iface t v) xT t ok).run P w=.ok (if ok then .tuple #[v,.bool true] else v) w:=by
 cases d<;>first|exact absurd rfl (hn _)|(simp [Instr.typeAssert,run_underlying hd])
theorem sQ {t t':TypeId} {d:TypeDesc} (hd:P.underlying t=some d) (hn:∀ms,d≠ .interface ms) (ht:t'≠t) (v z:Value) (xT:TypeId) (w:World) (hz:(zeroValue t).run P w=.ok z w):
  (Instr.typeAssert (.iface t' v) xT t true).run P w=.ok (.tuple #[z,.bool false]) w:=by
 cases d<;>first|exact absurd rfl (hn _)|(simp [Instr.typeAssert,run_underlying hd,ht,hz])
theorem ux {t:TypeId} {d:TypeDesc} (hd:P.underlying t=some d) (hn:∀ms,d≠ .interface ms) (z:Value) (xT:TypeId) (w:World) (hz:(zeroValue t).run P w=.ok z w):
  (Instr.typeAssert .nilIface xT t true).run P w=.ok (.tuple #[z,.bool false]) w:=by
 cases d<;>first|exact absurd rfl (hn _)|(simp [Instr.typeAssert,run_underlying hd,hz])
theorem A3 {x x':Value} {xT t:TypeId} {ok:Bool} (h:VR E x x'):az P lo w0 E H (yQ P x t ok:M I Value) (Instr.typeAssert x' xT t ok) VR:=by
 unfold yQ;split
 ·exact az.fail
 ·exact az.fail
 ·rename_i d hn hd;cases h with
  |iface t' hv=>
   cases hb:Nat.beq t' t with
   |true=>
    simp only [hb,cond_true];have:=Nat.eq_of_beq_eq_true hb;subst this;cases ok with
    |true=>exact az.val ⟨_,fun w=>(mb hd hn _ _ true w).trans (by rw [if_pos rfl]),VR.pair hv (.bool true)⟩
    |false=>exact az.val ⟨_,fun w=>(mb hd hn _ _ false w).trans (by rw [if_neg ai]),hv⟩
   |false=>
    simp only [hb,cond_false];have hne:t'≠t:=fun e=>by subst e;simp at hb
    cases ok with
    |true=>
     simp only [cond_true];split
     ·rename_i z hz;exact az.val ⟨_,fun w=>sQ hd hn hne _ _ _ w (ct hz w).1,VR.pair (cF E 3 z (ct hz default).2) (.bool false)⟩
     ·exact az.fail
    |false=>exact az.fail
  |AK=>
   cases ok with
   |true=>
    simp only [cond_true];split
    ·rename_i z hz;exact az.val ⟨_,fun w=>ux hd hn _ _ w (ct hz w).1,VR.pair (cF E 3 z (ct hz default).2) (.bool false)⟩
    ·exact az.fail
   |false=>exact az.fail
  |_=>exact az.fail
def Fj (P:Program) (t:TypeId) (cs:Array Value) (off:Nat):M I Value:=match AH P t with
 |some true=>bif Nat.ble (off+P.cellsOf t) cs.size then pure (.agg ((cs.toList.drop off).take (P.cellsOf t)).toArray) else fail
 |some false=>match cs[off]? with
  |some v=>pure v
  |none=>fail
 |none=>fail
theorem extract_eq (cs:Array Value) (off n:Nat):cs.extract off (off+n)=((cs.toList.drop off).take n).toArray:=by
 apply Array.toList_inj.1;simp [List.take_drop,Nat.add_comm]
theorem xx {t:TypeId} {cs cs':Array Value} {off:Nat} (h:fU E cs cs'):az P lo w0 E H (Fj P t cs off:M I Value) (part t cs' off) VR:=by
 unfold Fj;cases ha:AH P t with
 |none=>exact az.fail
 |some b=>
  obtain⟨i,hi⟩:=wY ha;cases b with
  |true=>
   cases hb:Nat.ble (off+P.cellsOf t) cs.size with
   |false=>simp only [hb];exact az.fail
   |true=>
    simp only [hb];have hle:=Nat.le_of_ble_eq_true hb;refine az.val ⟨.agg ((cs'.toList.drop off).take (P.cellsOf t)).toArray,fun w=>?_,.agg ?_ fun a v j hj hv=>?_⟩
    ·have hsz:(sizeOf t).run P w=.ok (P.cellsOf t) w:=run_sizeOf w hi;simp only [part,Sem.run_bind,pG ha,Result.andThen_ok,if_true,hsz,Sem.run_pure,extract_eq]
    ·simp;have:=h.1;omega
    ·simp only [List.getElem?_toArray,cM] at hj hv;split at hj
     ·rw [if_pos eL] at hv;exact h.2 a v _ hj hv
     ·cases hj
  |false=>
   cases hc:cs[off]? with
   |none=>simp only [hc];exact az.fail
   |some v=>
    simp only [hc];have ho:off<cs'.size:=by have:=(Array.getElem?_eq_some_iff.1 hc).1;have:=h.1;omega
    refine az.val ⟨cs'[off],fun w=>?_,h.2 v _ off hc (by simp [ho])⟩;simp [part,pG ha,ho]
def Dg (P:Program) (t:TypeId) (x:Value) (f:Nat):M I Value:=match P.underlying t with
 |some (.struct fs)=>match fs[f]? with
  |some fd=>match x with
   | .agg cs=>Fj P fd.type cs fd.offset
   |_=>fail
  |none=>fail
 |_=>fail
theorem Dh {t:TypeId} {x x':Value} {f:Nat} (h:VR E x x'):az P lo w0 E H (Dg P t x f:M I Value) (Instr.field t x' f) VR:=by
 unfold Dg;split
 ·rename_i fs hu;split
  ·rename_i fd hf;cases h with
   |agg h1 h2=>
    refine az.pH (c:=part fd.type _ fd.offset) (fun w=>?_) (xx ⟨h1,h2⟩);simp [Instr.field,run_underlying hu,hf,asAgg]
   |_=>exact az.fail
  ·exact az.fail
 ·exact az.fail
def Di (P:Program) (t:TypeId) (x i:Value):M I Value:=match P.underlying t,x,i with
 |some (.array n e),.agg cs,.int _ j=>match P.info? e with
  |some ie=>bif decide (0≤j) && decide (j<n) then Fj P e cs (j.toNat*ie.size) else fail
  |none=>fail
 |_,_,_=>fail
theorem Dj {t:TypeId} {x x' i i':Value} (h:VR E x x') (hi:VR E i i'):az P lo w0 E H (Di P t x i:M I Value) (Instr.index t x' i') VR:=by
 unfold Di;split
 ·rename_i n e cs k j hu;cases hi;cases h with
  |agg h1 h2=>
   split
   ·rename_i ie jg;cases hb:(decide (0≤j) && decide (j<n)) with
    |false=>exact az.fail
    |true=>
     simp only [Bool.and_eq_true,decide_eq_true_eq] at hb;refine az.pH (c:=part e _ (j.toNat*ie.size)) (fun w=>?_) (xx ⟨h1,h2⟩);simp [Instr.index,asIntOf,run_underlying hu,hb,sizeOf,typeInfo,jg]
   ·exact az.fail
 ·exact az.fail
def oF (P:Program) (t:TypeId) (x:Value) (f:Nat):M I Value:=match P.underlying t,x with
 |some (.struct fs),.pointer (some ⟨k,o,none⟩)=>match fs[f]? with
  |some fd=>match P.info? fd.type with
   |some i=>bif Nat.beq i.size 0 then fail else pure (.pointer (some ⟨k,o+fd.offset,none⟩))
   |none=>fail
  |none=>fail
 |_,_=>fail
theorem uy {t:TypeId} {x x':Value} {f:Nat} (h:VR E x x'):az P lo w0 E H (oF P t x f:M I Value) (Instr.fieldAt t x' f) VR:=by
 unfold oF;split
 ·rename_i fs k o hu;cases h with
  |ptr hk=>
   split
   ·rename_i fd hf;split
    ·rename_i i hi;cases hb:Nat.beq i.size 0 with
     |true=>exact az.fail
     |false=>
      have hne:i.size≠0:=fun e=>by simp [e] at hb
      refine az.val ⟨_,fun w=>?_,.ptr hk⟩;simp only [Instr.fieldAt,Sem.run_bind,run_underlying hu,Result.andThen_ok,hf,Instr.sureAddr,Sem.run_pure,fieldPlace,sizeOf,typeInfo,run_program,hi,hne,if_false,eN]
    ·exact az.fail
   ·exact az.fail
 ·exact az.fail
def oG (P:Program) (t:TypeId) (x i:Value):M I Value:=match P.underlying t,x,i with
 |some (.slice e),.slice (some ⟨k,o,_⟩) n _,.int _ j=>match P.info? e with
  |some ie=>bif decide (0≤j) && decide (j<n) then pure (.pointer (some ⟨k,o+j.toNat*ie.size,none⟩)) else fail
  |none=>fail
 |some (.array n e),.pointer (some ⟨k,o,none⟩),.int _ j=>match P.info? e with
  |some ie=>bif decide (0≤j) && decide (j<n) then pure (.pointer (some ⟨k,o+j.toNat*ie.size,none⟩)) else fail
  |none=>fail
 |_,_,_=>fail
theorem uz {t:TypeId} {x x' i i':Value} (h:VR E x x') (hi:VR E i i'):az P lo w0 E H (oG P t x i:M I Value) (Instr.indexAt t x' i') VR:=by
 unfold oG;split
 ·rename_i e k o sp n c kk j hu;cases hi;split
  ·rename_i ie jg;cases hb:(decide (0≤j) && decide (j<n)) with
   |false=>exact az.fail
   |true=>
    simp only [Bool.and_eq_true,decide_eq_true_eq] at hb;cases h with
    |slice _ _ hk=>
     exact Kl
    |wide _ _ hk=>
     exact Kl
  ·exact az.fail
 ·rename_i n e k o kk j hu;cases hi;split
  ·rename_i ie jg;cases hb:(decide (0≤j) && decide (j<n)) with
   |false=>exact az.fail
   |true=>
    simp only [Bool.and_eq_true,decide_eq_true_eq] at hb;cases h with
    |ptr hk=>
     refine az.val ⟨_,fun w=>?_,.ptr hk⟩;simp only [Instr.indexAt,Sem.run_bind,run_underlying hu,Result.andThen_ok,asIntOf,Sem.run_pure,Instr.sureAddr,hb,and_self,if_true,sizeOf,typeInfo,run_program,jg,eN]
  ·exact az.fail
 ·exact az.fail
def gu (x:Option Value) (y d:Nat):Option Nat:=match x with
 |none=>some d
 |some (.int _ i)=>bif decide (0≤i) && decide (i≤y) then some i.toNat else none
 |some _=>none
def nt (len cap:Nat) (l h m:Option Value):Option (Nat × Nat × Nat):=match gu m cap cap with
 |some mm=>match gu h mm len with
  |some hh=>match gu l hh 0 with
   |some ll=>match m,h with
    |some _,none=>none
    |_,_=>some (ll,hh,mm)
   |none=>none
  |none=>none
 |none=>none
def OVR (E:Env):Option Value→Option Value→Prop
 |none,none=>True
 |some v,some v'=>VR E v v'
 |_,_=>False
theorem gK {v v':Value} {y d n:Nat} (h:gu (some v) y d=some n) (hv:VR E v v') (y':Nat) (hy:y≤y') (code:BoundsCode) (w:World):(Instr.sliceBound v' y' code).run P w=.ok n w:=by
 cases hv<;>simp only [gu] at h<;>first|(cases h;done)|skip
 rename_i k i;cases hb:(decide (0≤i) && decide (i≤y)) with
 |false=>simp [hb] at h
 |true=>
  simp only [hb,cond_true,Option.some.injEq] at h;simp only [Bool.and_eq_true,decide_eq_true_eq] at hb;subst h;have h1:i≤y':=aa;simp [Instr.sliceBound,asIntOf,hb.1,h1]
theorem jn {len cap cap':Nat} {l h m l' h' m':Option Value} {a b c:Nat} (hb:nt len cap l h m=some (a,b,c)) (hl:OVR E l l') (hh:OVR E h h') (hm:OVR E m m') (hc:cap≤cap') (hx:m=none∨cap=cap') (is:Bool) (w:World):
  (Instr.sliceBounds is len cap' l' h' m').run P w=.ok (a,b,if m.isSome then c else cap') w:=by
 unfold nt at hb;cases h1:gu m cap cap with
 |none=>rw [h1] at hb;cases hb
 |some mm=>
  rw [h1] at hb;simp only at hb;cases h2:gu h mm len with
  |none=>rw [h2] at hb;cases hb
  |some JL=>
   rw [h2] at hb;simp only at hb;cases h3:gu l JL 0 with
   |none=>rw [h3] at hb;cases hb
   |some ll=>
    rw [h3] at hb;cases m with
    |some mv=>
     cases m' with
     |none=>exact hm.elim
     |some mv'=>
      cases h with
      |none=>cases hb
      |some hv=>
       cases h' with
       |none=>exact hh.elim
       |some hv'=>
        simp only [Option.some.injEq,Prod.mk.injEq] at hb;obtain⟨rfl,rfl,rfl⟩:=hb;obtain rfl:=hx.resolve_left ak;have r1:=fun code=>gK (P:=P) h1 hm cap (Nat.le_refl _) code w
        have r2:=fun code=>gK (P:=P) h2 hh mm (Nat.le_refl _) code w
        cases l with
        |none=>
         cases l' with
         |some _=>exact hl.elim
         |none=>
          simp only [gu,Option.some.injEq] at h3;subst h3;simp [Instr.sliceBounds,r1,r2]
        |some lv=>
         cases l' with
         |none=>exact hl.elim
         |some lv'=>
          have r3:=fun code=>gK (P:=P) h3 hl JL (Nat.le_refl _) code w
          simp [Instr.sliceBounds,r1,r2,r3]
    |none=>
     cases m' with
     |some _=>exact hm.elim
     |none=>
      simp only [gu,Option.some.injEq] at h1;subst h1;cases h with
      |none=>
       cases h' with
       |some _=>exact hh.elim
       |none=>
        simp only [gu,Option.some.injEq] at h2;subst h2;simp only [Option.some.injEq,Prod.mk.injEq] at hb;obtain⟨rfl,rfl,rfl⟩:=hb;cases l with
        |none=>
         cases l' with
         |some _=>exact hl.elim
         |none=>
          simp only [gu,Option.some.injEq] at h3;subst h3;simp [Instr.sliceBounds]
        |some lv=>
         cases l' with
         |none=>exact hl.elim
         |some lv'=>
          have r3:=fun code=>gK (P:=P) h3 hl len (Nat.le_refl _) code w
          simp [Instr.sliceBounds,r3]
      |some hv=>
       cases h' with
       |none=>exact hh.elim
       |some hv'=>
        simp only [Option.some.injEq,Prod.mk.injEq] at hb;obtain⟨rfl,rfl,rfl⟩:=hb;have r2:=fun code=>gK (P:=P) h2 hh cap' hc code w
        cases l with
        |none=>
         cases l' with
         |some _=>exact hl.elim
         |none=>
          simp only [gu,Option.some.injEq] at h3;subst h3;simp [Instr.sliceBounds,r2]
        |some lv=>
         cases l' with
         |none=>exact hl.elim
         |some lv'=>
          have r3:=fun code=>gK (P:=P) h3 hl JL (Nat.le_refl _) code w
          simp [Instr.sliceBounds,r2,r3]
def Dk (P:Program) (t:TypeId) (x:Value) (l h m:Option Value):M I Value:=match P.underlying t,x with
 |some (.slice e),.slice a n cap=>match nt n cap l h m,P.info? e with
  |some (ll,hh,mm),some ie=>match a with
   |none=>pure (.slice none (hh - ll) (mm - ll))
   |some ⟨k,o,none⟩=>pure (.slice (some ⟨k,bif Nat.beq mm ll then o else o+ll*ie.size,none⟩) (hh - ll) (mm - ll))
   |some ⟨k,o,some 0⟩=>match m with
    |none=>bif Nat.blt ll cap then pure (.slice (some ⟨k,o+ll*ie.size,some 0⟩) (hh - ll) (cap - ll)) else fail
    |some _=>fail
   |some _=>fail
  |_,_=>fail
 |some (.array n e),.pointer (some ⟨k,o,none⟩)=>match nt n n l h m,P.info? e with
  |some (ll,hh,mm),some ie=>pure (.slice (some ⟨k,bif Nat.beq mm ll then o else o+ll*ie.size,none⟩) (hh - ll) (mm - ll))
  |_,_=>fail
 |_,_=>fail
theorem rR {len cap:Nat} {l h m:Option Value} {a b c:Nat} (hb:nt len cap l h m=some (a,b,c)):m=none→c=cap:=by
 intro hm;subst hm;unfold nt at hb;simp only [gu] at hb;split at hb
 ·split at hb
  ·simp at hb;exact hb.2.2.symm
  ·cases hb
 ·cases hb
theorem Fk (a b:Nat) {α:Type} (x y:α):(bif Nat.beq a b then x else y)=if a=b then x else y:=by
 cases h:Nat.beq a b with
 |true=>have:=Nat.eq_of_beq_eq_true h;simp [this]
 |false=>rw [if_neg (fun e=>by subst e;simp at h)];rfl
theorem Dl {t:TypeId} {x x':Value} {l h m l' h' m':Option Value} (hx:VR E x x') (hl:OVR E l l') (hh:OVR E h h') (hm:OVR E m m'):
  az P lo w0 E H (Dk P t x l h m:M I Value) (Instr.sliceAt t x' l' h' m') VR:=by
 unfold Dk;split
 ·rename_i e a n cap hu;have hsl:∀(y:Value) (w:World),(Instr.sliceAt t y l' h' m').run P w=(Instr.slice t y l' h' m').run P w:=fun y w=>by simp [Instr.sliceAt,run_underlying hu]
  split
  ·rename_i ll JL mm ie hb jg;have A4:(if m.isSome then mm else cap)=mm:=by
    cases m with
    |none=>simp [rR hb rfl]
    |some v=>rfl
   cases hx with
   |qF=>
    refine az.val ⟨.slice none (JL - ll) (mm - ll),fun w=>?_,.qF _ _⟩;have hr:=jn (P:=P) hb hl hh hm (Nat.le_refl _) (.inr rfl) true w;rw [A4] at hr;rw [hsl];simp [Instr.slice,run_underlying hu,hr,sizeOf,typeInfo,jg]
   |slice _ _ hk=>
    simp only [Fk];refine az.val ⟨_,fun w=>?_,.slice _ _ hk⟩;have hr:=jn (P:=P) hb hl hh hm (Nat.le_refl _) (.inr rfl) true w;rw [A4] at hr;rw [hsl];by_cases e1:mm=ll
    ·simp [Instr.slice,run_underlying hu,hr,sizeOf,typeInfo,jg,e1]
    ·simp [Instr.slice,run_underlying hu,hr,sizeOf,typeInfo,jg,e1,eN]
   |wide _ _ hk=>
    cases m with
    |some _=>exact az.fail
    |none=>
     cases hbl:Nat.blt ll cap with
     |false=>simp only [hbl];exact az.fail
     |true=>
      simp only [hbl];have hlt:ll<cap:=by simp [Nat.blt] at hbl;omega
      rename_i k o b r;refine az.val ⟨.slice (some ⟨b,o+ll*ie.size,none⟩) (JL - ll) (cap - ll+r),fun w=>?_,.wide _ _ hk⟩;have hr:=jn (P:=P) (cap':=cap+r) hb hl hh hm aa (.inl rfl) true w;simp only [Option.isSome_none,Bool.false_eq_true,if_false] at hr;rw [hsl];have hne:¬(cap+r=ll):=aa;have heq:cap+r - ll=cap - ll+r:=aa;simp [Instr.slice,run_underlying hu,hr,sizeOf,typeInfo,jg,hne,eN,heq]
  ·exact az.fail
 ·rename_i n e k o hu;split
  ·rename_i ll JL mm ie hb jg;have A4:(if m.isSome then mm else n)=mm:=by
    cases m with
    |none=>simp [rR hb rfl]
    |some v=>rfl
   cases hx with
   |ptr hk=>
    simp only [Fk];refine az.val ⟨_,fun w=>?_,.slice _ _ hk⟩;have hr:=jn (P:=P) hb hl hh hm (Nat.le_refl _) (.inr rfl) false w;rw [A4] at hr;by_cases e1:mm=ll
    ·simp [Instr.sliceAt,Instr.sureAddr,run_underlying hu,hr,sizeOf,typeInfo,jg,e1]
    ·simp [Instr.sliceAt,Instr.sureAddr,run_underlying hu,hr,sizeOf,typeInfo,jg,e1,eN]
  ·exact az.fail
 ·exact az.fail
end Go.Am
/- A part of the proof. Conditions: none. -/
set_option maxRecDepth 100000
set_option maxHeartbeats 8000000
namespace Go.Am
open Go Go.RowKit
variable {μ:Type} {I:ir μ} {P:Program} {lo:eK} {w0:Bs} {E:Env} {H:(Nat→Option Obj)→Prop}
theorem fU.set {as cs:Array Value} (h:fU E as cs) {a c:Value} (i:Nat) (hv:VR E a c):fU E (as.setIfInBounds i a) (cs.setIfInBounds i c):=by
 refine⟨by simpa using h.1,fun x y j hx hy=>?_⟩;rw [Array.getElem?_setIfInBounds] at hx hy;by_cases e:i=j
 ·subst e;simp only [if_true] at hx hy;split at hx<;>split at hy<;>first|(cases hx;done)|(cases hy;done)|(cases hx;cases hy;exact hv)
 ·rw [if_neg e] at hx hy;exact h.2 x y j hx hy
def PR (E:Env):List (Nat × Value)→List (Nat × Value)→Prop
 |[],[]=>True
 |a::as,c::cs=>a.1=c.1∧VR E a.2 c.2∧PR E as cs
 |_,_=>False
theorem Cm (off:Nat):∀(l l':List Value) (n:Nat) (as cs:Array Value),l.length=l'.length→(∀a c:Value,∀j:Nat,l[j]?=some a→l'[j]?=some c→VR E a c)→fU E as cs→
  fU E ((l.zipIdx n).foldl (fun b x=>b.setIfInBounds (off+x.2) x.1) as) ((l'.zipIdx n).foldl (fun b x=>b.setIfInBounds (off+x.2) x.1) cs)
 |[],[],n,as,cs,_,_,h=>h
 |a::l,c::l',n,as,cs,hl,hv,h=>by
  simp only [List.zipIdx_cons,List.foldl_cons];exact Cm off l l' (n+1) _ _ (by simpa using hl) (fun x y j hx hy=>hv x y (j+1) (by simpa using hx) (by simpa using hy)) (h.set _ (hv a c 0 rfl rfl))
 |[],_::_,_,_,_,hl,_,_=>by simp at hl
 |_::_,[],_,_,_,hl,_,_=>by simp at hl
theorem qy (place:Nat→Option (Nat × Nat)):∀(ps Cn:List (Nat × Value)) (as cs r:Array Value),PR E ps Cn→fU E as cs→Instr.fill place as ps=some r→∃r',Instr.fill place cs Cn=some r'∧fU E r r'
 |[],[],as,cs,r,_,h,hf=>by simp [Instr.fill] at hf;subst hf;exact⟨cs,rfl,h⟩
 |(i,v)::ps,(i',v')::Cn,as,cs,r,hp,h,hf=>by
  obtain⟨h1,h2,h3⟩:=hp;simp only at h1 h2;subst h1;have hc:=h2.cells;simp only [Instr.fill] at hf ⊢;split at hf
  ·cases hf
  ·rename_i off size hpl;rw [←hc.1,←h.1];split at hf
   ·cases hf
   ·rename_i hne;rw [if_neg hne];refine qy place ps Cn _ _ r h3 ?_ hf;have:=Cm off v.cells.toList v'.cells.toList 0 as cs (by simpa using hc.1) (fun a c j ha hc'=>hc.2 a c j jk (by simpa using hc')) h;have tr:∀(u:Array Value) (b:Array Value),u.zipIdx.foldl (fun cs (x:Value × Nat)=>cs.setIfInBounds (off+x.2) x.1) b=(u.toList.zipIdx).foldl (fun b x=>b.setIfInBounds (off+x.2) x.1) b:=fun u b=>by
     rw [←Array.foldl_toList,Array.toList_zipIdx]
    exact(tr v.cells as).symm ▸ (tr v'.cells cs).symm ▸ this
 |[],_::_,_,_,_,hp,_,_=>hp.elim
 |_::_,[],_,_,_,hp,_,_=>hp.elim
def Co (P:Program) (t:TypeId):Bool:=(zeroOf P t).isSome
theorem vT {t:TypeId} {i:TypeInfo} {z:Value} (h:Co P t=true) (hi:P.info? t=some i) (hz:i.zero=some z):fD 3 z=true:=by
 unfold Co zeroOf at h;rw [hi] at h;simp only [hz] at h;cases hg:fD 3 z with
 |true=>rfl
 |false=>simp [hg] at h
def ES (P:Program) (t:TypeId) (parts:List (Nat × Value)):M I Value:=bif Co P t then match P.built t parts with
  |some cs=>pure (.agg cs)
  |none=>fail
 else fail
theorem I5 {t:TypeId} {ps Cn:List (Nat × Value)} {r:Array Value} (hz0:Co P t=true) (hp:PR E ps Cn) (h:P.built t ps=some r):∃r',P.built t Cn=some r'∧fU E r r':=by
 unfold Program.built at h ⊢;split at h
 ·rename_i it n e hit hu;split at h
  ·rename_i z ie hz jg;exact qy _ ps Cn z.cells z.cells r hp (cF E 3 z (vT hz0 hit hz)).cells h
  ·cases h
 ·rename_i it fs hit hu;split at h
  ·rename_i z pl hz hpl;exact qy _ ps Cn z.cells z.cells r hp (cF E 3 z (vT hz0 hit hz)).cells h
  ·cases h
 ·cases h
theorem EW {t:TypeId} {ps:List (Nat × Value)} {Cn:Array (Nat × Value)} (hp:PR E ps Cn.toList):az P lo w0 E H (ES P t ps:M I Value) (Instr.build t Cn) VR:=by
 unfold ES;cases hz:Co P t with
 |false=>exact az.fail
 |true=>
  simp only [cond_true];split
  ·rename_i cs hb;obtain⟨r',h1,h2⟩:=I5 hz hp hb;exact az.val ⟨.agg r',fun w=>run_build w t Cn r' h1,.agg h2.1 h2.2⟩
  ·exact az.fail
def gA (z:List Value):Nat→List Value
 |0=>[]
 |n+1=>z++gA z n
theorem jH (z:List Value) (n:Nat):(gA z n).length=n*z.length:=by
 induction n with
 |zero=>simp [gA]
 |succ n ih=>simp [gA,ih,Nat.add_mul];omega
theorem iu (z:List Value):∀(n j:Nat),j<n*z.length→(gA z n)[j]?=z[j % z.length]?
 |0,j,h=>by simp at h
 |n+1,j,h=>by
  simp only [gA];by_cases hj:j<z.length
  ·rw [List.getElem?_append_left hj,Nat.mod_eq_of_lt hj]
  ·rw [List.getElem?_append_right aa,iu z n (j - z.length) (by rw [Nat.add_mul] at h;omega)];congr 1;exact(Nat.mod_eq_sub_mod aa).symm
theorem sK (z:Array Value) (n:Nat):madeCells z (n*z.size)=(gA z.toList n).toArray:=by
 apply Array.ext_getElem?;intro j;by_cases hj:j<n*z.size
 ·have hz:0<z.size:=by rcases Nat.eq_zero_or_pos z.size with h|h;(rw [h] at hj;simp at hj);exact h
  have hm:=Nat.mod_lt j hz;have h2:=iu z.toList n j (by simpa using hj);simp only [Array.length_toList] at h2;have h3:(gA z.toList n).toArray[j]?=(gA z.toList n)[j]?:=ak;rw [h3,h2];simp [madeCells,hj,hm]
 ·rw [Array.getElem?_eq_none (by simp [madeCells];omega),Array.getElem?_eq_none (by simp [jH];omega)]
def mY (P:Program) (t:TypeId) (n:Nat) (ps:List (Nat × Value)):M I Value:=match P.underlying t with
 |some (.slice e)=>match P.info? e,zeroOf P e with
  |some ie,some z=>bif Nat.beq z.cells.size ie.size && Nat.ble (n*ie.size) 16777216 then
    match Instr.fill (fun i=>some (i*ie.size,ie.size)) (gA z.cells.toList n).toArray ps with
    |some cs=>new (.cells cs e (0,0))>>=fun k=>pure (.slice (some ⟨k,0,none⟩) n n)
    |none=>fail
   else fail
  |_,_=>fail
 |_=>fail
theorem vU {z:Value} {n:Nat} (hz:fD 3 z=true):fU E (gA z.cells.toList n).toArray (gA z.cells.toList n).toArray:=by
 refine⟨rfl,fun a c j ha hc=>?_⟩;rw [ha] at hc;cases hc;have hj:j<n*z.cells.size:=by
  have:=(Array.getElem?_eq_some_iff.1 ha).1;simpa [jH] using this
 rw [List.getElem?_toArray,iu _ _ _ (by simpa using hj)] at ha;exact(cF E 3 z hz).cells.2 a a _ jk jk
theorem qz {e:TypeId} {cs cs':Array Value} {n m:Nat} (h:fU E cs cs') {c:Sem Value} (hc:∀w,c.run P w=.ok (.slice (some ⟨w.heap.size,0,none⟩) n m) (w.alloc (.cells cs' e (0,0)))):
  az P lo w0 E H (new (.cells cs e (0,0))>>=fun k=>(pure (.slice (some ⟨k,0,none⟩) n m):M I Value)) c VR:=
 az.new fun E1 g w k hE hR _ hk=>⟨_,_,0,_,hc w,hR.alloc _,fK w _,fun i hi=>Below.heap_alloc w _ i hi,
  .cells (by rw [Nat.zero_mul];exact h.1) (fun a v j ha hv=>((h.2 a v j ha hv).mono hE).mono (Env.fF hk)),.slice (r:=0) _ _ (by simp [Env.put])⟩
theorem sY {t:TypeId} {n:Nat} {ps:List (Nat × Value)} {Cn:Array (Nat × Value)} (hp:PR E ps Cn.toList):az P lo w0 E H (mY P t n ps:M I Value) (Instr.buildSlice t n Cn) VR:=by
 unfold mY;split
 ·rename_i e hu;split
  ·rename_i ie z jg hz;cases hb:(Nat.beq z.cells.size ie.size && Nat.ble (n*ie.size) 16777216) with
   |false=>exact az.fail
   |true=>
    simp only [Bool.and_eq_true] at hb;have h1:=Nat.eq_of_beq_eq_true hb.1;have h2:=Nat.le_of_ble_eq_true hb.2;simp only [cond_true];split
    ·rename_i cs hf;have hzr:=ct hz;obtain⟨r',CD,hA⟩:=qy _ ps Cn.toList _ _ cs hp (vU (n:=n) (hzr default).2) hf;refine qz hA fun w=>?_
     have hle:¬(2 ^ 24<n*ie.size):=aa;have S6:¬(16777216<n*ie.size):=aa;by_cases h0:n*ie.size=0
     ·have:gA z.cells.toList n=[]:=List.eq_nil_of_length_eq_zero (by rw [jH];simpa [h1] using h0);rw [this] at CD;have e0:∀f:Nat→Value,(Array.range 0).map f=#[]:=fun f=>by simp
      simp [Instr.buildSlice,run_underlying hu,sizeOf,typeInfo,jg,h0,newRow];rw [e0,CD];simp
     ·have hm:=sK z.cells n;rw [h1] at hm;rw [←hm] at CD;unfold madeCells at CD;simp [Instr.buildSlice,run_underlying hu,sizeOf,typeInfo,jg,h0,S6,(hzr w).1,newRow,CD]
    ·exact az.fail
  ·exact az.fail
 ·exact az.fail
def oX (P:Program) (t:TypeId) (l c:Value):M I Value:=match P.underlying t,l,c with
 |some (.slice e),.int _ l,.int _ c=>match P.info? e,zeroOf P e with
  |some ie,some z=>bif Nat.beq z.cells.size ie.size && decide (0≤l) && decide (l≤c) && decide (ie.bytes*c≤281474976710656) && decide (c≤9223372036854775807) then
    new (.cells (gA z.cells.toList c.toNat).toArray e (0,0))>>=fun k=>pure (.slice (some ⟨k,0,none⟩) l.toNat c.toNat)
   else fail
  |_,_=>fail
 |_,_,_=>fail
theorem vQ {t:TypeId} {l c l' c':Value} (hl:VR E l l') (hc:VR E c c'):az P lo w0 E H (oX P t l c:M I Value) (Instr.makeSlice t l' c') VR:=by
 unfold oX;split
 ·rename_i e kl l kc c hu;cases hl;cases hc;split
  ·rename_i ie z jg hz;cases hb:(Nat.beq z.cells.size ie.size && decide (0≤l) && decide (l≤c) && decide (ie.bytes*c≤281474976710656) && decide (c≤9223372036854775807)) with
   |false=>exact az.fail
   |true=>
    simp only [Bool.and_eq_true,decide_eq_true_eq] at hb;obtain⟨⟨⟨⟨h1,h2⟩,h3⟩,h4⟩,h5⟩:=hb;have h1:=Nat.eq_of_beq_eq_true h1;have hzz:ie.zero=some z:=by
     unfold zeroOf at hz;rw [jg] at hz;simp only at hz;split at hz
     ·rename_i z' hz';cases hg:fD 3 z' with
      |true=>rw [hg] at hz;simp at hz;rw [hz',hz]
      |false=>rw [hg] at hz;simp at hz
     ·cases hz
    refine qz (vU (ct hz default).2) fun w=>?_
    rw [run_make w t e ie z hu jg hzz kl kc l c h2 h3 h4 h5,←h1,sK]
  ·exact az.fail
 ·exact az.fail
def Ch:M I Value:=new (.map #[] 0)>>=fun k=>pure (.map (some k))
theorem Ap {c:Sem Value} (hc:∀w,c.run P w=.ok (.map (some w.heap.size)) (w.alloc (.map #[] 0))):az P lo w0 E H (Ch:M I Value) c VR:=
 az.new fun E1 g w k hE hR _ hk=>⟨_,_,0,_,hc w,hR.alloc _,fK w _,fun i hi=>Below.heap_alloc w _ i hi,.map 0 rfl (fun a c j h=>by simp at h),.map (r:=0) (by simp [Env.put])⟩
def zE (size m:Nat):Value→M I (List Value)
 | .slice none _ _=>pure []
 | .slice (some ⟨k,o,_⟩) _ _=>do
  match←rd k with
  | .cells c _ _=>bif Nat.ble (o+m*size) c.size then pure ((c.toList.drop o).take (m*size)) else fail
  |_=>fail
 | .string s=>pure ((s.data.toList.take m).map fun b=>.int .u8 b.toNat)
 |_=>fail
def DU (size m:Nat) (x:Value) (vs:List Value) (g:Nat→Option Obj):Prop:=match x with
 | .slice none _ _=>vs=[]
 | .slice (some a) _ _=>∃c e fr,g a.block=some (.cells c e fr)∧a.off+m*size≤c.size∧vs=(c.toList.drop a.off).take (m*size)
 | .string s=>vs=(s.data.toList.take m).map fun b=>.int .u8 b.toNat
 |_=>False
theorem jx {α β:Type} {size m:Nat} {x:Value} {f:List Value→M I α} {c:Sem β} {R:Env→α→β→Prop} (h:∀vs,az P lo w0 E (fun g=>H g∧DU size m x vs g) (f vs) c R):
  az P lo w0 E H (zE size m x>>=f) c R:=by
 unfold zE;split
 ·exact az.congr (ko _ _) ((h []).weak fun g hg=>⟨hg,rfl⟩)
 ·rename_i k o sp n cp;have hm:∀(ob:Obj),(match ob with
    | .cells c _ _=>bif Nat.ble (o+m*size) c.size then(pure ((c.toList.drop o).take (m*size)):M I (List Value)) else fail
    |_=>fail)>>=f=(match ob with
    | .cells c _ _=>bif Nat.ble (o+m*size) c.size then f ((c.toList.drop o).take (m*size)) else fail
    |_=>fail):=fun ob=>by
   cases ob with
   |cells c e fr=>cases hb:Nat.ble (o+m*size) c.size<;>simp only [hb]<;>rfl
   |_=>rfl
  have aew:((rd k>>=fun ob=>match ob with
    | .cells c _ _=>bif Nat.ble (o+m*size) c.size then(pure ((c.toList.drop o).take (m*size)):M I (List Value)) else fail
    |_=>fail)>>=f).run=(rd k>>=fun ob=>(match ob with
    | .cells c _ _=>bif Nat.ble (o+m*size) c.size then f ((c.toList.drop o).take (m*size)) else fail
    |_=>fail)).run:=by
   funext s;show(M.bind (M.bind _ _) _).run s=(M.bind _ _).run s;simp only [M.bind];cases (rd k:M I Obj).run s with
   |none=>rfl
   |some p=>
    obtain⟨ob,s1⟩:=p;have:=congrArg (fun x=>x.run s1) (hm ob);exact this
  refine az.congr aew (az.rd fun ob=>?_);cases ob with
  |cells c e fr=>
   cases hb:Nat.ble (o+m*size) c.size with
   |false=>simp only [hb];exact az.fail
   |true=>
    simp only [hb];exact(h _).weak fun g hg=>⟨hg.1,c,e,fr,hg.2,Nat.le_of_ble_eq_true hb,rfl⟩
  |_=>exact az.fail
 ·exact az.congr (ko _ _) ((h _).weak fun g hg=>⟨hg,rfl⟩)
 ·exact fun s a s' hr=>by obtain⟨a1,s1,h1,h2⟩:=ax hr;exact(au h1).elim
def LR (E:Env) (as cs:List Value):Prop:=as.length=cs.length∧∀a c:Value,∀j:Nat,as[j]?=some a→cs[j]?=some c→VR E a c
theorem DU.run {size m:Nat} {x x':Value} {vs:List Value} {g:Nat→Option Obj} {w w1:World} (h:DU size m x vs g) (hR:Rel P lo w0 E g w) (hx:VR E x x') (hw:w1.heap=w.heap):
  ∃yC,(Builtin.firstCells size m x').run P w1=.ok yC.toArray w1∧LR E vs yC∧((∀a n c,x=.slice (some a) n c→vs.length=m*size)∧(∀s,x=.string s→m≤s.size→vs.length=m)):=by
 cases hx with
 |qF n c=>simp only [DU] at h;subst h;exact⟨[],by simp [Builtin.firstCells],⟨rfl,fun a c j h=>by simp at h⟩,by simp,by simp⟩
 |string s=>
  simp only [DU] at h;subst h;refine⟨_, ?_,⟨rfl,fun a c j ha hc=>?_⟩,by simp,fun s' hs hm=>?_⟩
  ·simp only [Builtin.firstCells,Sem.run_pure];congr 1;apply Array.toList_inj.1;simp [ByteArray.data_extract]
  ·rw [ha] at hc;cases hc;simp only [List.getElem?_map] at ha;obtain⟨b,_,rfl⟩:=Option.map_eq_some_iff.1 ha;exact .int _ _
  ·cases hs;have:s.data.toList.length=s.size:=ak;simp;omega
 | @slice k o b r n c hk=>
  obtain⟨cc,e,fr,h1,h2,rfl⟩:=h;obtain⟨cs,Ra,h3,h4,_,h5⟩:=hR.cells h1 hk;simp only at h2;have hlen:((cs.toList.drop o).take (m*size)).length=m*size:=cr;have hr:=run_firstCells_some (P:=P) w1 size m ⟨b,o,none⟩ n c ((cs.toList.drop o).take (m*size)) hlen (fun j v hj=>by
   rw [cM] at hj;split at hj
   ·rw [eN,cell_of (by rw [hw];exact h3)];exact hj
   ·cases hj)
  exact NY
 | @wide k o b r n c hk=>
  obtain⟨cc,e,fr,h1,h2,rfl⟩:=h;obtain⟨cs,Ra,h3,h4,_,h5⟩:=hR.cells h1 hk;simp only at h2;have hlen:((cs.toList.drop o).take (m*size)).length=m*size:=cr;have hr:=run_firstCells_some (P:=P) w1 size m ⟨b,o,none⟩ n (c+r) ((cs.toList.drop o).take (m*size)) hlen (fun j v hj=>by
   rw [cM] at hj;split at hj
   ·rw [eN,cell_of (by rw [hw];exact h3)];exact hj
   ·cases hj)
  exact NY
 |_=>exact h.elim
end Go.Am
/- A part of the proof. Conditions: none. -/
set_option maxRecDepth 100000
set_option maxHeartbeats 8000000
namespace Go.Am
open Go Go.RowKit
variable {μ:Type} {I:ir μ} {P:Program} {lo:eK} {w0:Bs} {E:Env} {H:(Nat→Option Obj)→Prop}
def Hh:Value→Option Nat
 | .slice _ n _=>some n
 | .string s=>some s.size
 |_=>none
theorem iZ {x x':Value} {n:Nat} (h:Hh x=some n) (hx:VR E x x') (w:World):(Builtin.lenOf x').run P w=.ok n w:=by
 cases hx<;>simp [Hh] at h<;>subst h<;>rfl
def isInt (P:Program) (t:TypeId):Option Bool:=match P.underlying t with
 |some (.int _)=>some true
 |some _=>some false
 |none=>none
def zD (P:Program) (lo:eK) (st xt:TypeId) (s x:Value):M I Value:=
 match P.underlying st,isInt P xt,s,Hh x with
 |some (.slice e),some false,.slice a n cap,some m=>match P.info? e,zeroOf P e with
  |some ie,some z=>
   bif Nat.ble (n+m) cap then match a with
    |none=>bif Nat.beq m 0 then pure (.slice none (n+m) cap) else fail
    |some a=>zE ie.size m x>>=fun news=>JN lo a.block (a.off+n*ie.size) news>>=fun _=>pure (.slice (some a) (n+m) cap)
   else bif Nat.ble ((n+m)*ie.bytes) 140737488355328 && Nat.ble (n+m) 9223372036854775807 && Nat.beq z.cells.size ie.size then match a with
    |none=>bif Nat.beq n 0 then zE ie.size m x>>=fun news=>bif Nat.beq news.length (m*ie.size) then new (.cells news.toArray e (0,0))>>=fun k=>pure (.slice (some ⟨k,0,some 0⟩) (n+m) (n+m)) else fail else fail
    |some ⟨k0,o,none⟩=>zE ie.size n s>>=fun olds=>zE ie.size m x>>=fun news=>bif Nat.beq news.length (m*ie.size) then
      new (.cells (olds++news).toArray e (0,0))>>=fun k=>pure (.slice (some ⟨k,0,some 0⟩) (n+m) (n+m)) else fail
    |some ⟨k0,0,some 0⟩=>zE ie.size n s>>=fun olds=>zE ie.size m x>>=fun news=>bif Nat.beq news.length (m*ie.size) then rd k0>>=fun ob=>match ob with
      | .cells c e' (0,0)=>bif Nat.beq c.size (cap*ie.size) && Nat.beq e' e && news.all Value.oneCell' then
        wr lo k0 none>>=fun _=>new (.cells (olds++news).toArray e (0,0))>>=fun k=>pure (.slice (some ⟨k,0,some 0⟩) (n+m) (n+m)) else fail
      |_=>fail else fail
    |_=>fail
   else fail
  |_,_=>fail
 |_,_,_,_=>fail
theorem qX {t:TypeId} (h:isInt P t=some false):∃d,P.underlying t=some d∧∀k,d≠ .int k:=by
 unfold isInt at h;split at h
 ·cases h
 ·rename_i d hn hd;exact⟨d,hd,fun k e=>hn k e⟩
 ·cases h
theorem gQ {st xt ty e:TypeId} {ie:TypeInfo} {x':Value} {b o n cap m:Nat} {vs:List Value} {w:World} (hu:P.underlying st=some (.slice e)) (hi:isInt P xt=some false) (jg:P.info? e=some ie)
  (hl:(Builtin.lenOf x').run P w=.ok m w) (hle:n+m≤cap) (hf:(Builtin.firstCells ie.size m x').run P w=.ok vs.toArray w):
  (Builtin.append_ #[st,xt] ty #[.slice (some ⟨b,o,none⟩) n cap,x']).run P w=((storeCells ⟨b,o+n*ie.size,none⟩ vs).run P w).andThen fun _ w'=>.ok (.slice (some ⟨b,o,none⟩) (n+m) cap) w':=by
 obtain⟨d,hd,hn⟩:=qX hi;simp [Builtin.append_,run_underlying hu,run_underlying hd,sizeOf,typeInfo,jg,hl,hle,hf,eN]
theorem sV {st xt ty e:TypeId} {ie:TypeInfo} {x':Value} {n cap m:Nat} {w:World} (hu:P.underlying st=some (.slice e)) (hi:isInt P xt=some false) (jg:P.info? e=some ie)
  (hl:(Builtin.lenOf x').run P w=.ok m w) (hle:n+m≤cap) (hf:∃vs,(Builtin.firstCells ie.size m x').run P w=.ok vs w):
  (Builtin.append_ #[st,xt] ty #[.slice none n cap,x']).run P w=.ok (.slice none (n+m) cap) w:=by
 obtain⟨d,hd,hn⟩:=qX hi;obtain⟨vs,hf⟩:=hf;simp [Builtin.append_,run_underlying hu,run_underlying hd,sizeOf,typeInfo,jg,hl,hle,hf]
theorem jW {st xt ty e:TypeId} {ie:TypeInfo} {z:Value} {x':Value} {a:Option Addr} {n cap m:Nat} {olds vs:List Value} {w:World} (hu:P.underlying st=some (.slice e)) (hi:isInt P xt=some false) (jg:P.info? e=some ie)
  (hz:ie.zero=some z) (hl:(Builtin.lenOf x').run P w=.ok m w) (hlt:cap<n+m) (hbytes:(n+m)*ie.bytes≤140737488355328) (h63:n+m≤9223372036854775807)
  (ho:(Builtin.firstCells ie.size n (.slice a n cap)).run P w.drew=.ok olds.toArray w.drew) (hf:(Builtin.firstCells ie.size m x').run P w.drew=.ok vs.toArray w.drew):
  (Builtin.append_ #[st,xt] ty #[.slice a n cap,x']).run P w=.ok (.slice (some ⟨w.heap.size,0,none⟩) (n+m) (grownCap w (n+m) cap e))
   (w.drew.alloc (.cells ((olds++vs).toArray++Builtin.zeroCells z.cells (grownCap w (n+m) cap e - (n+m))) e)):=by
 obtain⟨d,hd,hn⟩:=qX hi;have xC:¬(n+m≤cap):=aa;have ajB:¬(9223372036854775807<((n:Int)+(m:Int))):=aa;have h48:=growslice_fits hlt hbytes;have ajC:¬(281474976710656<Builtin.nextslicecap (n+m) cap*ie.bytes):=aa;simp [Builtin.append_,run_underlying hu,run_underlying hd,sizeOf,typeInfo,zeroValue,jg,hz,hl,xC,ajB,ajC,Question.forced,hf,ho,newRow,grownCap];congr 2;apply Array.ext';simp [List.append_assoc]
theorem az.point {α β:Type} {m:M I α} {c:Sem β} {R:Env→α→β→Prop} (h:∀E1 g w,(∀k x,E k=some x→E1 k=some x)→Rel P lo w0 E1 g w→H g→∃c',c.run P w=c'.run P w∧az P lo w0 E1 S4 m c' R):az P lo w0 E H m c R:=by
 intro s a s' hr E1 g w hE hR hA hF hH;obtain⟨c',hc,hs⟩:=h E1 g w hE hR hH;obtain⟨E2,d,w1,h1,h2,h3,h4⟩:=hs s a s' hr E1 g w (fun _ _ h=>h) hR hA hF trivial;exact⟨E2,d,w1,by rw [hc];exact h1,h2,h3,h4⟩
theorem Bw {α β:Type} {k0:Nat} {o:Obj} {f:Nat→α} {c:Sem β} {R:Env→α→β→Prop} (h:∀E1 g w k,(∀k x,E k=some x→E1 k=some x)→Rel P lo w0 E1 g w→H g→E1 k=none→lo.lo≤k0→∀o0,g k0=some o0→
  ∃b w' bl r co,c.run P w=.ok b w'∧Below w0.w.heap.size w0.w w'∧w0.w.heap.size≤bl∧w'.heap[bl]?=some co∧(∀i,i≠bl→i<w.heap.size→w'.heap[i]?=w.heap[i]?)∧(bl=w.heap.size∨∃r',E1 k0=some (bl,r'))∧OR P (E1.put k bl r) r o co∧R (E1.put k bl r) (f k) b):
  az P lo w0 E H (wr lo k0 none>>=fun _=>new o>>=fun k=>(Pure.pure (f k):M I α)) c R:=by
 intro s a' s' hr E1 g w hE hR hA hF hH;obtain⟨u,s1,hr3,hr2⟩:=ax hr;obtain⟨k,s2,hr1,hr4⟩:=ax hr2;obtain⟨rfl,rfl⟩:=pure_run hr4;obtain⟨d1,⟨o0,d2⟩,d3,d4,d5,d6⟩:=qL hr3;obtain⟨rfl,e2,e3,e4,e5,e6⟩:=zF hr1;have l2:=(new o:M I Nat).le _ _ _ hr1;have hk:E1 s1.next=none:=hF s1.next aa aa;have hg0:g k0=I.get s.mem k0:=hA _ (by rw [l2.W _ (by rw [d5];simp),Bool.or_true]);have hg:g k0=some o0:=by rw [hg0,d2]
 have bK:k0≠s1.next:=fun e=>by
  obtain⟨b',r',S5,h1,_⟩:=hR.tie _ _ hg;rw [e,hk] at h1;cases h1
 obtain⟨b,w',bl,r,co,h1,h2,h3,h4,h5,h6,h7,h8⟩:=h E1 g w s1.next hE hR hH hk d1 o0 hg;refine⟨E1.put s1.next bl r,b,w',h1,⟨Env.fF hk,fun i hi=>?_⟩,h8, ?_⟩
 ·by_cases e:i=s1.next
  ·subst e;exact .inr ⟨by omega,by omega⟩
  ·simp [Env.put,e] at hi;exact .inl (by simpa using hi)
 ·have hm:merge I s' g=fun i=>if i=s1.next then some o else if i=k0 then none else g i:=by
   funext i;unfold merge;by_cases ei:i=s1.next
   ·subst ei;rw [if_pos (by rw [e5];simp),e6,if_pos rfl,if_pos rfl]
   ·rw [if_neg ei];by_cases e0:i=k0
    ·subst e0;rw [if_pos (by rw [e5,d5];simp),e6,if_neg ei,d6,if_pos rfl,if_pos rfl]
    ·rw [if_neg e0];split
     ·rename_i hw;rw [e6,if_neg ei,d6,if_neg e0];exact(hA i (by rw [hw,Bool.or_true])).symm
     ·rfl
  rw [hm];refine(hR.kill k0).name hk h2 h3 h4 h5 (fun i o' r' hi he=>?_) h7;by_cases e0:i=k0
  ·simp [e0] at hi
  ·simp [e0] at hi;rcases h6 with rfl|⟨r2,h6⟩
   ·exact absurd (hR.lt hi he) (Nat.lt_irrefl _)
   ·exact e0 (hR.inj _ _ _ _ _ _ _ hi hg he h6)
theorem uU {g:Nat→Option Obj} {w:World} (h:Rel P lo w0 E g w):Rel P lo w0 E g w.drew:=⟨h.below.drew,h.tie,h.inj,h.own,h.old,h.kept⟩
theorem LR.append {as bs cs ds:List Value} (h:LR E as cs) (k:LR E bs ds):LR E (as++bs) (cs++ds):=by
 refine⟨by simp [h.1,k.1],fun a c j ha hc=>?_⟩;by_cases hj:j<as.length
 ·rw [List.getElem?_append_left hj] at ha;rw [List.getElem?_append_left (by rw [←h.1];exact hj)] at hc;exact h.2 a c j ha hc
 ·rw [List.getElem?_append_right aa] at ha;rw [List.getElem?_append_right (by rw [←h.1];omega),←h.1] at hc;exact k.2 a c _ ha hc
theorem xH {as cs:List Value} {e:TypeId} {ie:TypeInfo} {z:Value} {r:Nat} (h:LR E as cs) (jg:P.info? e=some ie) (hz:z.cells.size=ie.size):
  OR P E r (.cells as.toArray e (0,0)) (.cells (cs.toArray++Builtin.zeroCells z.cells r) e (0,0)):=by
 refine .cells ?_ fun a c j ha hc=>?_
 ·simp [size_zeroCells,hz,ot jg,h.1]
 ·have hj:j<as.length:=by
   exact MD
  rw [Array.getElem?_append_left (by simpa [←h.1] using hj)] at hc;exact h.2 a c j jk (by simpa using hc)
theorem si {t:TypeId} {z:Value} {i:TypeInfo} (h:zeroOf P t=some z) (hi:P.info? t=some i):i.zero=some z:=by
 unfold zeroOf at h;rw [hi] at h;simp only at h;split at h
 ·rename_i z' hz';cases hg:fD 3 z' with
  |true=>rw [hg] at h;simp at h;rw [hz',h]
  |false=>rw [hg] at h;simp at h
 ·cases h
theorem jX {st xt ty e:TypeId} {ie:TypeInfo} {z:Value} {s s' x x':Value} {a':Option Addr} {n cap m:Nat} {olds news:List Value} (hu:P.underlying st=some (.slice e)) (hi:isInt P xt=some false) (jg:P.info? e=some ie)
  (hz:zeroOf P e=some z) (hzs:z.cells.size=ie.size) (hm:Hh x=some m) (hx:VR E x x') (hs':s'=.slice a' n cap) (hlt:cap<n+m) (hbytes:(n+m)*ie.bytes≤140737488355328) (h63:n+m≤9223372036854775807)
  (hold:∀E1 g w,(∀k x,E k=some x→E1 k=some x)→Rel P lo w0 E1 g w→H g→∃xI,(Builtin.firstCells ie.size n (.slice a' n cap)).run P w.drew=.ok xI.toArray w.drew∧LR E1 olds xI∧olds.length=n*ie.size)
  (ajD:∀g,H g→DU ie.size m x news g) (Hj:news.length=m*ie.size):
  az P lo w0 E H (new (.cells (olds++news).toArray e (0,0))>>=fun k=>(pure (.slice (some ⟨k,0,some 0⟩) (n+m) (n+m)):M I Value)) (Builtin.append_ #[st,xt] ty #[s',x']) VR:=by
 subst hs';refine az.new fun E1 g w k hE hR hH hk=>?_
 obtain⟨xI,ho,JO,hol⟩:=hold E1 g w hE hR hH;obtain⟨uV,hn,gD,_⟩:=(ajD g hH).run (w1:=w.drew) hR (hx.mono hE) rfl;have hrun:=jW (P:=P) (ty:=ty) (w:=w) hu hi jg (si hz jg) (iZ hm (hx.mono hE) w) hlt hbytes h63 ho hn;have sj:=grownCap_ge w (n+m) cap e;refine⟨_,_,grownCap w (n+m) cap e - (n+m),_,hrun,(uU hR).alloc _,fK w.drew _,fun i hi=>Below.heap_alloc w.drew _ i hi, ?_, ?_⟩
 ·have hL:=JO.append gD;exact xH (ie:=ie) ⟨hL.1,fun a c j ha hc=>(hL.2 a c j ha hc).mono (Env.fF hk)⟩ jg hzs
 ·have hw:=VR.wide (E:=E1.put k w.heap.size (grownCap w (n+m) cap e - (n+m))) (o:=0) (n+m) (n+m) (by simp [Env.put]:(E1.put k w.heap.size (grownCap w (n+m) cap e - (n+m))) k=some (w.heap.size,grownCap w (n+m) cap e - (n+m)))
  rwa [show n+m+(grownCap w (n+m) cap e - (n+m))=grownCap w (n+m) cap e by omega] at hw
theorem Bx {st xt ty:TypeId} {s x s' x':Value} (hs:VR E s s') (hx:VR E x x'):az P lo w0 E S4 (zD P lo st xt s x:M I Value) (Builtin.append_ #[st,xt] ty #[s',x']) VR:=by
 unfold zD;split
 ·rename_i e a n cap m hu hi hm;split
  ·rename_i ie z jg hz;cases hle:Nat.ble (n+m) cap with
   |true=>
    have S6:=Nat.le_of_ble_eq_true hle;simp only [cond_true];cases hs with
    |qF=>
     cases Ks:Nat.beq m 0 with
     |false=>exact az.fail
     |true=>
      have Ks:=Nat.eq_of_beq_eq_true Ks;subst Ks;refine az.val ⟨_,fun w=>sV hu hi jg (iZ hm hx w) S6 ?_,.qF _ _⟩;cases hx<;>simp [Hh] at hm<;>first|exact⟨_,by simp [Builtin.firstCells,loadCells,loadCellsFrom];rfl⟩|exact⟨_,by simp [Builtin.firstCells];rfl⟩
    | @slice k o b r _ _ hk=>
     refine jx fun news=>az.point fun E1 g w hE hR ⟨_,hH⟩=>?_
     obtain⟨uV,hn,gD,_⟩:=hH.run hR (hx.mono hE) rfl;refine⟨storeCells ⟨b,o+n*ie.size,none⟩ uV>>=fun _=>pure (.slice (some ⟨b,o,none⟩) (n+m) cap), ?_,az.bind (lQ (hE _ _ hk) gD.1 gD.2) fun E2 _ _ Bz _=>az.pure fun E3 Yj=>.slice _ _ (Yj _ _ (Bz _ _ (hE _ _ hk)))⟩;rw [gQ hu hi jg (iZ hm (hx.mono hE) w) S6 hn];simp
    | @wide k o b r _ _ hk=>
     refine jx fun news=>az.point fun E1 g w hE hR ⟨_,hH⟩=>?_
     obtain⟨uV,hn,gD,_⟩:=hH.run hR (hx.mono hE) rfl;refine⟨storeCells ⟨b,o+n*ie.size,none⟩ uV>>=fun _=>pure (.slice (some ⟨b,o,none⟩) (n+m) (cap+r)), ?_,az.bind (lQ (hE _ _ hk) gD.1 gD.2) fun E2 _ _ Bz _=>az.pure fun E3 Yj=>.wide _ _ (Yj _ _ (Bz _ _ (hE _ _ hk)))⟩;rw [gQ hu hi jg (iZ hm (hx.mono hE) w) aa hn];simp
   |false=>
    simp only [cond_false];have hlt:cap<n+m:=by
     rcases Nat.lt_or_ge cap (n+m) with h|h
     ·exact h
     ·rw [Nat.ble_eq_true_of_le h] at hle;cases hle
    cases hb:(Nat.ble ((n+m)*ie.bytes) 140737488355328 && Nat.ble (n+m) 9223372036854775807 && Nat.beq z.cells.size ie.size) with
    |false=>exact az.fail
    |true=>
     simp only [Bool.and_eq_true] at hb;obtain⟨⟨hb1,hb2⟩,hb3⟩:=hb;have hb1:=Nat.le_of_ble_eq_true hb1;have hb2:=Nat.le_of_ble_eq_true hb2;have hb3:=Nat.eq_of_beq_eq_true hb3;simp only [cond_true];cases hs with
     |qF=>
      cases Aw:Nat.beq n 0 with
      |false=>exact az.fail
      |true=>
       have Aw:=Nat.eq_of_beq_eq_true Aw;subst Aw;simp only [cond_true];refine jx fun news=>?_
       cases Hj:Nat.beq news.length (m*ie.size) with
       |false=>exact az.fail
       |true=>
        have Hj:=Nat.eq_of_beq_eq_true Hj;have:=jX (I:=I) (lo:=lo) (w0:=w0) (E:=E) (H:=fun g=>S4 g∧DU ie.size m x news g) (ty:=ty) (olds:=[]) (s:=.nilFunc) (a':=none) (n:=0) hu hi jg hz hb3 hm hx rfl hlt hb1 hb2
         (fun E1 g w hE hR _=>⟨[],by simp [Builtin.firstCells],⟨rfl,fun a c j h=>by simp at h⟩,by simp⟩) (fun g hg=>hg.2) Hj
        exact this
     | @slice k o b r _ _ hk=>
      refine jx fun olds=>jx fun news=>?_
      cases Hj:Nat.beq news.length (m*ie.size) with
      |false=>exact az.fail
      |true=>
       have Hj:=Nat.eq_of_beq_eq_true Hj;refine jX (s:=.nilFunc) hu hi jg hz hb3 hm hx rfl hlt hb1 hb2 (fun E1 g w hE hR hH=>?_) (fun g hg=>hg.2) Hj;obtain⟨xI,h1,h2,h3,_⟩:=hH.1.2.run (w1:=w.drew) hR ((VR.slice (E:=E) n cap hk).mono hE) rfl;exact⟨xI,h1,h2,h3 _ _ _ rfl⟩
     | @wide k o b r _ _ hk=>
      cases o with
      |succ o=>exact az.fail
      |zero=>
       refine jx fun olds=>jx fun news=>?_
       cases Hj:Nat.beq news.length (m*ie.size) with
       |false=>exact az.fail
       |true=>
        have Hj:=Nat.eq_of_beq_eq_true Hj;simp only [cond_true];refine az.rd fun ob=>?_
        split
        ·rename_i c e';cases hc:(Nat.beq c.size (cap*ie.size) && Nat.beq e' e && news.all Value.oneCell') with
         |false=>exact az.fail
         |true=>
          simp only [Bool.and_eq_true] at hc;obtain⟨⟨hc1,hc2⟩,hc3⟩:=hc;have hc1:=Nat.eq_of_beq_eq_true hc1;have hc2:=Nat.eq_of_beq_eq_true hc2;subst hc2;simp only [cond_true];refine Bw fun E1 g w k2 hE hR ⟨⟨⟨_,hH1⟩,hH2⟩,hg⟩ hk2 JO o0 hg0=>?_
          obtain⟨xI,h1,ajE,h3,_⟩:=hH1.run (w1:=w.drew) hR ((VR.wide (E:=E) n cap hk).mono hE) rfl;obtain⟨uV,h4,gD,_⟩:=hH2.run (w1:=w.drew) hR (hx.mono hE) rfl;obtain⟨nT,h4',S7,_⟩:=hH2.run (w1:=w) hR (hx.mono hE) rfl;have hol:=h3 _ _ _ rfl;by_cases hroom:n+m≤cap+r
          ·
           obtain⟨cs,Ra,Gj,hw2,hw3,hw4⟩:=hR.cells hg (hE _ _ hk);obtain⟨rfl,hsz⟩:=hw3 rfl;have hsz':cs.size=(cap+r)*ie.size:=by rw [←hsz,hc1,ot jg,Nat.add_mul]
           have ajF:nT.length=m*ie.size:=by rw [←S7.1,Hj]
           have hmul:(n+m)*ie.size≤(cap+r)*ie.size:=Nat.mul_le_mul_right _ hroom;have yD:∀v∈nT,v.oneCell'=true:=fun v hv'=>by
            obtain⟨j,hj,rfl⟩:=List.getElem_of_mem hv';have hj':j<news.length:=by rw [S7.1];exact hj
            have:=(S7.2 news[j] nT[j] j (by simp [hj']) (by simp [hj])).one;rw [this];exact List.all_eq_true.1 hc3 _ (List.getElem_mem _)
           have oB:n*ie.size+nT.length≤cs.size:=by rw [ajF,←Nat.add_mul,hsz'];exact hmul
           have hst:=run_storeCells_at P b (n*ie.size) e' nT 0 cs w Gj aa yD;have hrun:=gQ (P:=P) (ty:=ty) (o:=0) (b:=b) hu hi jg (iZ hm (hx.mono hE) w) hroom h4';rw [Nat.zero_add,hst] at hrun;have hT:=nO (cs:=(cs.toList.take (n*ie.size+0)++nT++cs.toList.drop (n*ie.size+0+nT.length)).toArray) Gj;refine⟨_,_,b,cap+r - (n+m),_,hrun, ?_,hR.own _ _ _ JO (hE _ _ hk),hT.at_,fun i hi _=>hT.other i hi,.inr ⟨r,hE _ _ hk⟩,.cells ?_ fun a v j ha hv=>?_, ?_⟩
           ·refine hR.below.trans ⟨rfl,rfl,rfl,by simp,fun i hi=>hT.other i ?_⟩;have:=hR.own _ _ _ JO (hE _ _ hk);omega
           ·have e1:((cs.toList.take (n*ie.size+0)++nT++cs.toList.drop (n*ie.size+0+nT.length)).toArray).size=cs.size:=by simp;omega
            rw [e1,ot jg,hsz'];simp only [List.size_toArray,List.length_append,hol,Hj];rw [←Nat.add_mul,←Nat.add_mul];congr 1;omega
           ·have hL:LR E1 (olds++news) (cs.toList.take (n*ie.size)++nT):=by
             refine LR.append ⟨by simp [hol];omega,fun a c j ha hc=>?_⟩ S7;obtain⟨cc,ee,ff,g1,g2,rfl⟩:=hH1;rw [hg] at g1;cases g1;rw [List.drop_zero,List.getElem?_take] at ha;rw [List.getElem?_take] at hc;split at ha
             ·rw [if_pos eL] at hc;exact hw4 a c j jk (by simpa using hc)
             ·cases ha
            have hj:j<(olds++news).length:=by
             exact MD
            rw [Nat.add_zero,List.getElem?_toArray,List.getElem?_append_left (by rw [←hL.1];exact hj)] at hv;exact(hL.2 a v j jk hv).mono (Env.fF hk2)
           ·have hw:=VR.wide (E:=E1.put k2 b (cap+r - (n+m))) (o:=0) (n+m) (n+m) (by simp [Env.put]:(E1.put k2 b (cap+r - (n+m))) k2=some (b,cap+r - (n+m)))
            rwa [show n+m+(cap+r - (n+m))=cap+r by omega] at hw
          ·
           have hrun:=jW (P:=P) (ty:=ty) (w:=w) hu hi jg (si hz jg) (iZ hm (hx.mono hE) w) aa hb1 hb2 h1 h4;have sj:=grownCap_ge w (n+m) (cap+r) e';refine⟨_,_,w.heap.size,grownCap w (n+m) (cap+r) e' - (n+m),_,hrun,(uU hR).alloc _,hR.below.size,fK w.drew _,fun i _ hi=>Below.heap_alloc w.drew _ i hi,.inl rfl, ?_, ?_⟩
           ·have hL:=ajE.append gD;exact xH (ie:=ie) ⟨hL.1,fun a c j ha hc=>(hL.2 a c j ha hc).mono (Env.fF hk2)⟩ jg hb3
           ·have hw:=VR.wide (E:=E1.put k2 w.heap.size (grownCap w (n+m) (cap+r) e' - (n+m))) (o:=0) (n+m) (n+m) (by simp [Env.put]:(E1.put k2 w.heap.size (grownCap w (n+m) (cap+r) e' - (n+m))) k2=some (w.heap.size,grownCap w (n+m) (cap+r) e' - (n+m)))
            rwa [show n+m+(grownCap w (n+m) (cap+r) e' - (n+m))=grownCap w (n+m) (cap+r) e' by omega] at hw
        ·exact az.fail
  ·exact az.fail
 ·exact az.fail
end Go.Am
/- A part of the proof. Conditions: none. -/
set_option maxRecDepth 100000
set_option maxHeartbeats 8000000
namespace Go.Am
open Go Go.RowKit
variable {μ:Type} {I:ir μ} {P:Program} {lo:eK} {w0:Bs} {E:Env} {H:(Nat→Option Obj)→Prop}
def P6 (P:Program) (lo:eK) (dT:TypeId) (d x:Value):M I Value:=match P.underlying dT,d,Hh x with
 |some (.slice e),.slice (some a) dl _,some sl=>match P.info? e with
  |some ie=>zE ie.size (Nat.min sl dl) x>>=fun news=>JN lo a.block a.off news>>=fun _=>pure (.int .i64 (Nat.min sl dl))
  |none=>fail
 |_,_,_=>fail
theorem IU {dT sT ty:TypeId} {d d' x x':Value} (hd:VR E d d') (hx:VR E x x'):az P lo w0 E S4 (P6 P lo dT d x:M I Value) (Builtin.copy_ #[dT,sT] ty #[d',x']) VR:=by
 unfold P6;split
 ·rename_i e a dl dc sl hu hl;split
  ·rename_i ie jg;refine jx fun news=>az.point fun E1 g w hE hR ⟨_,hH⟩=>?_
   obtain⟨uV,hn,gD,_⟩:=hH.run hR (hx.mono hE) rfl;have hlen:=iZ (P:=P) hl (hx.mono hE) w;have hrun:∀(b o cp:Nat),(Builtin.copy_ #[dT,sT] ty #[.slice (some ⟨b,o,none⟩) dl cp,x']).run P w=(storeCells ⟨b,o,none⟩ uV>>=fun _=>pure (.int .i64 (Nat.min sl dl)):Sem Value).run P w:=fun b o cp=>by
    simp [Builtin.copy_,run_underlying hu,hlen,sizeOf,typeInfo,jg,hn,goInt]
   cases hd with
   | @slice k o b r _ _ hk=>exact⟨_,hrun b o _,az.bind (lQ (hE _ _ hk) gD.1 gD.2) fun E2 _ _ Bz _=>az.pure fun E3 Yj=>.int _ _⟩
   | @wide k o b r _ _ hk=>exact⟨_,hrun b o _,az.bind (lQ (hE _ _ hk) gD.1 gD.2) fun E2 _ _ Bz _=>az.pure fun E3 Yj=>.int _ _⟩
  ·exact az.fail
 ·exact az.fail
def yw (kind:TypeDesc) (k:Value):List MapEntry→Nat→Option (Option Nat)
 |[],_=>some none
 |e::es,i=>match Instr.sameNow kind k e.key with
  |some true=>some (some i)
  |some false=>yw kind k es (i+1)
  |none=>none
def yx (P:Program) (t:TypeId) (k:Value):List MapEntry→Nat→Option (Option Nat)
 |[],_=>some none
 |e::es,i=>match fZ P (Op.equal t k e.key) with
  |some true=>some (some i)
  |some false=>yx P t k es (i+1)
  |none=>none
def rI:List MapEntry→List MapEntry→Prop
 |[],[]=>True
 |a::as,c::cs=>c.key=a.key∧rI as cs
 |_,_=>False
theorem oZ (kind:TypeDesc) (k:Value):∀(es es':List MapEntry) (i:Nat),rI es es'→
  match yw kind k es i with
  |none=>Instr.findNow kind k es' i=none
  |some none=>Instr.findNow kind k es' i=some none
  |some (some j)=>i≤j∧∃e',es'[j - i]?=some e'∧Instr.findNow kind k es' i=some (some (j,e'.val))
 |[],[],i,_=>by simp [yw,Instr.findNow]
 |e::es,e'::es',i,h=>by
  obtain⟨h1,h2⟩:=h;have ih:=oZ kind k es es' (i+1) h2;simp only [yw,Instr.findNow,h1];cases Instr.sameNow kind k e.key with
  |none=>simp
  |some b=>
   cases b with
   |true=>simp
   |false=>
    simp only;cases hq:yw kind k es (i+1) with
    |none=>rw [hq] at ih;exact ih
    |some r=>
     cases r with
     |none=>rw [hq] at ih;exact ih
     |some j=>
      rw [hq] at ih;obtain⟨a1,e2,a2,a3⟩:=ih;refine⟨by omega,e2, ?_,a3⟩;rw [show j - i=(j - (i+1))+1 by omega];simpa using a2
 |[],_::_,_,h=>h.elim
 |_::_,[],_,h=>h.elim
theorem pg (t:TypeId) (k:Value) (w:World):∀(es es':List MapEntry) (i:Nat),rI es es'→
  match yx P t k es i with
  |none=>True
  |some none=>(Instr.findAsking t k es' i).run P w=.ok none w
  |some (some j)=>i≤j∧∃e',es'[j - i]?=some e'∧(Instr.findAsking t k es' i).run P w=.ok (some (j,e'.val)) w
 |[],[],i,_=>by simp [yx,Instr.findAsking]
 |e::es,e'::es',i,h=>by
  obtain⟨h1,h2⟩:=h;have ih:=pg t k w es es' (i+1) h2;simp only [yx];cases hp:fZ P (Op.equal t k e.key) with
  |none=>simp
  |some b=>
   have hr:=lN hp w;cases b with
   |true=>simp [Instr.findAsking,h1,hr]
   |false=>
    simp only;cases hq:yx P t k es (i+1) with
    |none=>trivial
    |some r=>
     cases r with
     |none=>rw [hq] at ih;simp [Instr.findAsking,h1,hr,ih]
     |some j=>
      rw [hq] at ih;obtain⟨a1,e2,a2,a3⟩:=ih;refine⟨by omega,e2, ?_,by simp [Instr.findAsking,h1,hr,a3]⟩;rw [show j - i=(j - (i+1))+1 by omega];simpa using a2
 |[],_::_,_,h=>h.elim
 |_::_,[],_,h=>h.elim
def vY (P:Program) (t:TypeId) (k:Value) (es:List MapEntry):Option (Option Nat):=match P.underlying t with
 |some d=>match yw d k es 0 with
  |some r=>some r
  |none=>yx P t k es 0
 |none=>none
theorem pn {t:TypeId} {k:Value} {es es':List MapEntry} (h:vY P t k es=some none) (hk:rI es es') (w:World):(Instr.findKey t k es').run P w=.ok none w:=by
 unfold vY at h;split at h
 ·rename_i d hd;have h1:=oZ d k es es' 0 hk;have h2:=pg (P:=P) t k w es es' 0 hk;split at h
  ·rename_i r hr;cases h;rw [hr] at h1;simp [Instr.findKey,run_underlying hd,h1]
  ·rename_i hr;rw [hr] at h1;rw [h] at h2;simp [Instr.findKey,run_underlying hd,h1,h2]
 ·cases h
theorem vZ {t:TypeId} {k:Value} {es es':List MapEntry} {j:Nat} (h:vY P t k es=some (some j)) (hk:rI es es') (w:World):∃e',es'[j]?=some e'∧(Instr.findKey t k es').run P w=.ok (some (j,e'.val)) w:=by
 unfold vY at h;split at h
 ·rename_i d hd;have h1:=oZ d k es es' 0 hk;have h2:=pg (P:=P) t k w es es' 0 hk;split at h
  ·rename_i r hr;cases h;rw [hr] at h1;obtain⟨_,e',a1,a2⟩:=h1;exact⟨e',by simpa using a1,by simp [Instr.findKey,run_underlying hd,a2]⟩
  ·rename_i hr;rw [hr] at h1;rw [h] at h2;obtain⟨_,e',a1,a2⟩:=h2;exact⟨e',by simpa using a1,by simp [Instr.findKey,run_underlying hd,h1,a2]⟩
 ·cases h
theorem kg:∀(es cs:List MapEntry),es.length=cs.length→(∀a c:MapEntry,∀j:Nat,es[j]?=some a→cs[j]?=some c→c.key=a.key)→rI es cs
 |[],[],_,_=>trivial
 |a::as,c::cs,hl,h=>⟨h a c 0 rfl rfl,kg as cs (by simpa using hl) fun x y j hx hy=>h x y (j+1) (by simpa using hx) (by simpa using hy)⟩
 |[],_::_,hl,_=>by simp at hl
 |_::_,[],hl,_=>by simp at hl
def sL (P:Program) (empty:Bool) (t:TypeId) (k:Value):Bool:=fD 3 k && (fZ P (Instr.checkKey empty 10000 t k)).isSome
theorem ez {empty:Bool} {t:TypeId} {k:Value} (h:sL P empty t k=true) (w:World):fD 3 k=true∧(Instr.checkKey empty 10000 t k).run P w=.ok () w:=by
 unfold sL at h;simp only [Bool.and_eq_true] at h;obtain⟨h1,h2⟩:=h;obtain⟨u,hu⟩:=Option.isSome_iff_exists.1 h2;exact⟨h1,lN hu w⟩
theorem Rel.Qv {g:Nat→Option Obj} {w:World} (h:Rel P lo w0 E g w) {k clock:Nat} {es:Array MapEntry} (hg:g k=some (.map es clock)) {b r:Nat} (hE:E k=some (b,r)):
  ∃cs,w.heap[b]?=some (.map cs clock)∧es.size=cs.size∧∀a c:MapEntry,∀j:Nat,es[j]?=some a→cs[j]?=some c→c.key=a.key∧c.born=a.born∧VR E a.val c.val:=by
 obtain⟨b',r',co,h1,h2,h3⟩:=h.tie k _ hg;rw [h1] at hE;cases hE;cases h3 with
 |map clock hs hv=>exact⟨_,h2,hs,hv⟩
theorem cU {w:World} {b clock:Nat} {cs:Array MapEntry} (h:w.heap[b]?=some (.map cs clock)):(getObj b).run P w=.ok (.map cs clock) w:=by
 simp [getObj,Sem.run,h]
theorem lp {w:World} {b clock clock':Nat} {cs cs':Array MapEntry} (h:w.heap[b]?=some (.map cs clock)):(setObj b (.map cs' clock')).run P w=.ok () {w with heap:=w.heap.setIfInBounds b (.map cs' clock')}:=by
 simp [setObj,Sem.run,h]
theorem jI {w:World} {b:Nat} {o o':Obj} (h:w.heap[b]?=some o):ek b o' w {w with heap:=w.heap.setIfInBounds b o'}:=by
 have hb:=(Array.getElem?_eq_some_iff.1 h).1;exact⟨rfl,rfl,rfl,by simp,by simp [hb],fun i hi=>by simp [Array.getElem?_setIfInBounds,Ne.symm hi]⟩
def Ak (P:Program) (t:TypeId) (x k:Value) (ok:Bool):M I Value:=match P.underlying t,x with
 |some (.map kt et),.map none=>bif sL P true kt k then match vY P kt k [],zeroOf P et with
   |some none,some z=>pure (bif ok then .tuple #[z,.bool false] else z)
   |_,_=>fail
  else fail
 |some (.map kt et),.map (some n)=>rd n>>=fun ob=>match ob with
  | .map es _=>bif sL P es.isEmpty kt k then match vY P kt k es.toList with
    |some (some j)=>match es[j]? with
     |some e=>pure (bif ok then .tuple #[e.val,.bool true] else e.val)
     |none=>fail
    |some none=>match zeroOf P et with
     |some z=>pure (bif ok then .tuple #[z,.bool false] else z)
     |none=>fail
    |none=>fail
   else fail
  |_=>fail
 |_,_=>fail
theorem Ci {t:TypeId} {x k x' k':Value} {ok:Bool} (hx:VR E x x') (hk:VR E k k'):az P lo w0 E H (Ak P t x k ok:M I Value) (Instr.lookup t x' k' ok) VR:=by
 unfold Ak;split
 ·rename_i kt et hu;cases hx;cases hc:sL P true kt k with
  |false=>exact az.fail
  |true=>
   simp only [cond_true];split
   ·rename_i z hf hz;have hg:=(ez hc default).1;have:=oP hk 3 hg;subst this;have hzg:=cF E 3 z (ct hz default).2;have hr:=pn (es':=[]) hf trivial;cases ok with
    |true=>exact az.val ⟨.tuple #[z,.bool false],fun w=>by simp [Instr.lookup,run_underlying hu,(ez hc w).2,hr,(ct hz w).1],VR.pair hzg (.bool false)⟩
    |false=>exact az.val ⟨z,fun w=>by simp [Instr.lookup,run_underlying hu,(ez hc w).2,hr,(ct hz w).1],hzg⟩
   ·exact az.fail
 ·rename_i kt et n hu;cases hx with
  |map hn=>
   refine az.rd fun ob=>?_
   cases ob with
   |map es clock=>
    cases hc:sL P es.isEmpty kt k with
    |false=>simp only [hc];exact az.fail
    |true=>
     simp only [hc,cond_true];have hg:=(ez hc default).1;have:=oP hk 3 hg;subst this;split
     ·rename_i j hf;split
      ·rename_i e he;refine az.leaf fun E1 g w hE hR ⟨_,Xi⟩=>?_
       obtain⟨cs,h1,h2,h3⟩:=hR.Qv Xi (hE _ _ hn);have hke:=kg es.toList cs.toList lV fun a c j ha hc'=>(h3 a c j jk (by simpa using hc')).1
       obtain⟨e',CC,hr⟩:=vZ hf hke w;have hv:=(h3 e e' j he (by simpa using CC)).2.2;have Qw:cs.isEmpty=es.isEmpty:=by simp [Array.isEmpty,h2]
       cases ok with
       |true=>exact⟨.tuple #[e'.val,.bool true],by simp [Instr.lookup,run_underlying hu,cU h1,Qw,(ez hc w).2,hr],VR.pair hv (.bool true)⟩
       |false=>exact⟨e'.val,by simp [Instr.lookup,run_underlying hu,cU h1,Qw,(ez hc w).2,hr],hv⟩
      ·exact az.fail
     ·rename_i hf;split
      ·rename_i z hz;refine az.leaf fun E1 g w hE hR ⟨_,Xi⟩=>?_
       obtain⟨cs,h1,h2,h3⟩:=hR.Qv Xi (hE _ _ hn);have hke:=kg es.toList cs.toList lV fun a c j ha hc'=>(h3 a c j jk (by simpa using hc')).1
       have hr:=pn hf hke w;have Qw:cs.isEmpty=es.isEmpty:=by simp [Array.isEmpty,h2]
       have hzg:=cF E1 3 z (ct hz default).2;cases ok with
       |true=>exact⟨.tuple #[z,.bool false],by simp [Instr.lookup,run_underlying hu,cU h1,Qw,(ez hc w).2,hr,(ct hz w).1],VR.pair hzg (.bool false)⟩
       |false=>exact⟨z,by simp [Instr.lookup,run_underlying hu,cU h1,Qw,(ez hc w).2,hr,(ct hz w).1],hzg⟩
      ·exact az.fail
     ·exact az.fail
   |_=>exact az.fail
 ·exact az.fail
def Aj (P:Program) (lo:eK) (t:TypeId) (x k v:Value):M I Unit:=match P.underlying t,x with
 |some (.map kt et),.map (some n)=>rd n>>=fun ob=>match ob with
  | .map es clock=>bif sL P false kt k then match vY P kt k es.toList with
    |some (some j)=>match es[j]? with
     |some e=>bif Instr.sameBits 10000 e.key k then wr lo n (some (.map (es.setIfInBounds j ⟨k,v,e.born⟩) clock))>>=fun _=>pure () else fail
     |none=>fail
    |some none=>wr lo n (some (.map (es.push ⟨k,v,clock⟩) (clock+1)))>>=fun _=>pure ()
    |none=>fail
   else fail
  |_=>fail
 |_,_=>fail
theorem sJ {t:TypeId} {x k v x' k' v':Value} (hx:VR E x x') (hk:VR E k k') (hv:VR E v v'):az P lo w0 E H (Aj P lo t x k v:M I Unit) (Instr.mapUpdate t x' k' v') (fun _ _ _=>True):=by
 unfold Aj;split
 ·rename_i kt et n hu;cases hx with
  |map hn=>
   refine az.rd fun ob=>?_
   cases ob with
   |map es clock=>
    cases hc:sL P false kt k with
    |false=>simp only [hc];exact az.fail
    |true=>
     simp only [hc,cond_true];have hg:=(ez hc default).1;have:=oP hk 3 hg;subst this;split
     ·rename_i j hf;split
      ·rename_i e he;cases hsb:Instr.sameBits 10000 e.key k' with
       |false=>exact az.fail
       |true=>
        refine az.wr fun E1 g w hE hR ⟨_,Xi⟩ o0 hg0 JO=>?_
        obtain⟨cs,h1,h2,h3⟩:=hR.Qv Xi (hE _ _ hn);have hke:=kg es.toList cs.toList lV fun a c j ha hc'=>(h3 a c j jk (by simpa using hc')).1
        obtain⟨e',CC,hr⟩:=vZ hf hke w;have aeA:cs[j]?=some e':=by simpa using CC
        have hee:=h3 e e' j he aeA;have pZ:(Instr.keyThatStays (((cs[j]?).map (·.key)).getD k') k').run P w=.ok k' w:=by
         simp [aeA,hee.1,Instr.keyThatStays,hsb]
        have akZ:cs.modify j (fun e=>{e with key:=k',val:=v'})=cs.setIfInBounds j ⟨k',v',e'.born⟩:=by
         apply Array.ext_getElem?;intro i;rw [Array.getElem?_modify,Array.getElem?_setIfInBounds];by_cases e1:j=i
         ·subst e1;obtain⟨h7,h8⟩:=Array.getElem?_eq_some_iff.1 aeA;simp [h7,h8]
         ·simp [e1]
        refine⟨(),_,_,_,_, ?_,hE _ _ hn,jI (o':=.map (cs.setIfInBounds j ⟨k',v',e'.born⟩) clock) h1,.map clock lV fun a c i ha hc'=>?_,trivial⟩
        ·simp only [Instr.mapUpdate,Sem.run_bind,run_underlying hu,Result.andThen_ok,cU h1,(ez hc w).2,hr,pZ,akZ,lp h1]
        ·rw [Array.getElem?_setIfInBounds] at ha hc';by_cases e1:j=i
         ·subst e1;simp only [if_true] at ha hc';split at ha<;>split at hc'<;>first|(cases ha;done)|(cases hc';done)|skip
          cases ha;cases hc';exact⟨rfl,hee.2.1,hv.mono hE⟩
         ·rw [if_neg e1] at ha hc';exact h3 a c i ha hc'
      ·exact az.fail
     ·rename_i hf;refine az.wr fun E1 g w hE hR ⟨_,Xi⟩ o0 hg0 JO=>?_
      obtain⟨cs,h1,h2,h3⟩:=hR.Qv Xi (hE _ _ hn);have hke:=kg es.toList cs.toList lV fun a c j ha hc'=>(h3 a c j jk (by simpa using hc')).1
      have hr:=pn hf hke w;refine⟨(),_,_,_,_, ?_,hE _ _ hn,jI (o':=.map (cs.push ⟨k',v',clock⟩) (clock+1)) h1,.map _ (by simp [h2]) fun a c i ha hc'=>?_,trivial⟩
      ·simp only [Instr.mapUpdate,Sem.run_bind,run_underlying hu,Result.andThen_ok,cU h1,(ez hc w).2,hr,lp h1]
      ·rw [Array.getElem?_push] at ha hc';rw [←h2] at hc';by_cases e1:i=es.size
       ·rw [if_pos e1] at ha hc';cases ha;cases hc';exact⟨rfl,rfl,hv.mono hE⟩
       ·rw [if_neg e1] at ha hc';exact h3 a c i ha hc'
     ·exact az.fail
   |_=>exact az.fail
  |_=>exact az.fail
 ·exact az.fail
def aem (P:Program) (t:TypeId) (x:Value):M I Value:=match P.underlying t,x with
 |some .string,.string s=>pure (.int .i64 s.size)
 |some (.array n _),_=>pure (.int .i64 n)
 |some (.slice _),.slice _ n _=>pure (.int .i64 n)
 |some (.map _ _),.map none=>pure (.int .i64 0)
 |some (.map _ _),.map (some k)=>rd k>>=fun ob=>match ob with
  | .map es _=>pure (.int .i64 es.size)
  |_=>fail
 |_,_=>fail
theorem Qg {ts:Array TypeId} {t ty:TypeId} {x x':Value} (ht:ts[0]?=some t) (hx:VR E x x'):az P lo w0 E H (aem P t x:M I Value) (Builtin.len_ ts ty #[x']) VR:=by
 unfold aem;split
 ·rename_i s hu;exact OA
 ·rename_i n e hu;exact az.val ⟨_,fun w=>by simp [Builtin.len_,ht,run_underlying hu,goInt],.int _ _⟩
 ·rename_i e a n c hu;cases hx<;>exact az.val ⟨_,fun w=>by simp [Builtin.len_,ht,run_underlying hu,goInt],.int _ _⟩
 ·rename_i k e hu;exact OA
 ·rename_i k e n hu;cases hx with
  |map hn=>
   refine az.rd fun ob=>?_
   cases ob with
   |map es clock=>
    refine az.leaf fun E1 g w hE hR ⟨_,Xi⟩=>?_
    obtain⟨cs,h1,h2,h3⟩:=hR.Qv Xi (hE _ _ hn);exact⟨_,by simp [Builtin.len_,ht,run_underlying hu,cU h1,goInt,←h2],.int _ _⟩
   |_=>exact az.fail
 ·exact az.fail
def aen (P:Program) (t:TypeId) (x:Value):M I Value:=match P.underlying t,x with
 |some (.slice _),.slice none _ c=>pure (.int .i64 c)
 |some (.slice _),.slice (some ⟨_,_,none⟩) _ c=>pure (.int .i64 c)
 |_,_=>fail
theorem Qh {ts:Array TypeId} {t ty:TypeId} {x x':Value} (ht:ts[0]?=some t) (hx:VR E x x'):az P lo w0 E H (aen P t x:M I Value) (Builtin.cap_ ts ty #[x']) VR:=by
 unfold aen;split
 ·rename_i e n c hu;exact OB
 ·rename_i e k o n c hu;exact OB
 ·exact az.fail
def ET (P:Program) (t:TypeId) (x:Value):M I Value:=match P.underlying t,x with
 |some .string,.string s=>new (.stringIter s 0)>>=fun k=>pure (.pointer (some ⟨k,0,none⟩))
 |_,_=>fail
theorem EX {t:TypeId} {x x':Value} (hx:VR E x x'):az P lo w0 E H (ET P t x:M I Value) (Instr.range t x') VR:=by
 unfold ET;split
 ·rename_i s hu;cases hx;exact az.new fun E1 g w k hE hR _ hk=>⟨_,_,0,_,run_range_string w t s hu,hR.alloc _,fK w _,fun i hi=>Below.heap_alloc w _ i hi,.iter s 0,.ptr (r:=0) (by simp [Env.put])⟩
 ·exact az.fail
theorem blt_eq (a b:Nat):Nat.blt a b=decide (a<b):=by
 rw [Bool.eq_iff_iff,decide_eq_true_eq,show Nat.blt a b=Nat.ble (a+1) b from rfl,Nat.ble_eq];exact Iff.rfl
def Qf (lo:eK) (x:Value) (nG:Bool):M I Value:=match x,nG with
 | .pointer (some ⟨k,0,none⟩),true=>rd k>>=fun ob=>match ob with
  | .stringIter s p=>bif Nat.blt p s.size then match Utf8.decode s p with
    |(c,wd)=>wr lo k (some (.stringIter s (p+wd)))>>=fun _=>pure (.tuple #[.bool true,.int .i64 p,.int .i32 c])
   else pure (.tuple #[.bool false])
  |_=>fail
 |_,_=>fail
theorem Rel.iter {g:Nat→Option Obj} {w:World} (h:Rel P lo w0 E g w) {k p:Nat} {s:ByteArray} (hg:g k=some (.stringIter s p)) {b r:Nat} (hE:E k=some (b,r)):w.heap[b]?=some (.stringIter s p):=by
 obtain⟨b',r',co,h1,h2,h3⟩:=h.tie k _ hg;rw [h1] at hE;cases hE;cases h3;exact h2
theorem IW {x x':Value} {nG:Bool} {ty:TypeId} (hx:VR E x x'):az P lo w0 E H (Qf lo x nG:M I Value) (Instr.next x' nG ty) VR:=by
 unfold Qf;split
 ·rename_i k;cases hx with
  |ptr hk=>
   refine az.rd fun ob=>?_
   cases ob with
   |stringIter s p=>
    cases hb:Nat.blt p s.size with
    |true=>
     have hlt:p<s.size:=by rw [blt_eq] at hb;simpa using hb
     simp only [hb,cond_true];generalize hd:Utf8.decode s p=cw;obtain⟨c,wd⟩:=cw;simp only;refine az.wr fun E1 g w hE hR ⟨_,hg⟩ o0 hg0 JO=>?_
     have h1:=hR.iter hg (hE _ _ hk);refine⟨_,_,_,_,_, ?_,hE _ _ hk,jI (o':=.stringIter s (p+wd)) h1,.iter _ _,.tuple rfl fun a v j ha hv=>?_⟩
     ·simp [Instr.next,getObj,setObj,Sem.run,h1,hlt,hd,goInt]
     ·have:fD 0 a=true:=by
       rcases j with _|_|_|j<;>simp at ha<;>subst ha<;>rfl
      rw [ha] at hv;cases hv;exact cF _ 0 a this
    |false=>
     have hlt:¬p<s.size:=by rw [blt_eq] at hb;simpa using hb
     simp only [hb,cond_false];refine az.leaf fun E1 g w hE hR ⟨_,hg⟩=>?_
     have h1:=hR.iter hg (hE _ _ hk);exact⟨_,by simp [Instr.next,getObj,Sem.run,h1,hlt],cF _ 1 _ rfl⟩
   |_=>exact az.fail
 ·exact az.fail
def bytesOf:List Value→Option (List UInt8)
 |[]=>some []
 | .int .u8 n::l=>match bytesOf l with
  |some r=>some (UInt8.ofNat n.toNat::r)
  |none=>none
 |_::_=>none
def qx (P:Program) (t:TypeId) (x y:Value):Option Bool:=match P.underlying t,x,y with
 |some (.slice _),.slice none _ _,.slice b _ _=>some b.isNone
 |some (.slice _),.slice (some _) _ _,.slice none _ _=>some false
 |some (.map _ _),.map none,.map b=>some b.isNone
 |some (.map _ _),.map (some _),.map none=>some false
 |some (.func _ _ _),.nilFunc,.func _ _ _=>some false
 |some (.func _ _ _),.func _ _ _,.nilFunc=>some false
 |some (.pointer _),.pointer none,.pointer b=>some b.isNone
 |some (.pointer _),.pointer (some _),.pointer none=>some false
 |some (.interface _),.nilIface,.iface _ _=>some false
 |some (.interface _),.iface _ _,.nilIface=>some false
 |_,_,_=>none
theorem Cv {t:TypeId} {x y x' y':Value} {b:Bool} (h:qx P t x y=some b) (hx:VR E x x') (hy:VR E y y') (d:Nat) (w:World):(Op.equalIn (d+1) t x' y').run P w=.ok b w:=by
 unfold qx at h;split at h<;>first|(cases h;done)|skip
 all_goals
  rename_i hu;cases hx<;>cases hy<;>simp at h<;>subst h<;>simp [Op.equalIn,run_underlying hu]
theorem sM {t:TypeId} {x y x' y':Value} {b:Bool} (h:qx P t x y=some b) (hx:VR E x x') (hy:VR E y y') (op:BinOp) (X Y:Operand) (w:World):(eqGuard op t X Y x' y').run P w=.ok () w:=by
 unfold qx at h;split at h<;>first|(cases h;done)|skip
 all_goals
  cases hx<;>cases hy<;>first|(simp at h;done)|(cases op<;>simp [eqGuard])
theorem I8 {t:TypeId} {x y x' y':Value} {b:Bool} (h:qx P t x y=some b) (hx:VR E x x') (hy:VR E y y'):binOp .eql t x' y'=(do pure (.bool (←Op.equal t x' y')):Sem Value)∧binOp .neq t x' y'=(do pure (.bool (!(←Op.equal t x' y'))):Sem Value):=by
 unfold qx at h;split at h<;>first|(cases h;done)|skip
 all_goals
  cases hx<;>cases hy<;>first|exact⟨rfl,rfl⟩|(simp at h;done)
theorem yo {t:TypeId} {x y x' y':Value} {b:Bool} (h:qx P t x y=some b) (hx:VR E x x') (hy:VR E y y') (X Y:Operand) (w:World):
  (do eqGuard .eql t X Y x' y';binOp .eql t x' y':Sem Value).run P w=.ok (.bool b) w∧(do eqGuard .neq t X Y x' y';binOp .neq t x' y':Sem Value).run P w=.ok (.bool (!b)) w:=by
 obtain⟨h1,h2⟩:=I8 h hx hy;have h3:(Op.equal t x' y').run P w=.ok b w:=Cv h hx hy 9999 w;constructor
 ·simp only [Sem.run_bind,sM h hx hy,Result.andThen_ok,h1,h3,Sem.run_pure]
 ·simp only [Sem.run_bind,sM h hx hy,Result.andThen_ok,h2,h3,Sem.run_pure]
end Go.Am
/- A part of the proof. Conditions: none. -/
set_option maxRecDepth 100000
set_option maxHeartbeats 8000000
namespace Go.Am
open Go Go.RowKit
variable {μ:Type} {I:ir μ} {P:Program} {lo:eK} {w0:Bs} {E:Env} {H:(Nat→Option Obj)→Prop}
inductive bT where
 |val (v:Value)
 |panic (v:Value)
 |call (f:FuncId) (args:Array Value)
 |defer (d:Deferred)
 |recover
 |round (k:Nat) (tmps:Array Value) (assign body:Code)
def DR (E:Env) (d d':Deferred):Prop:=(∃f cap cap',d.target=.fn (.func f) cap∧d'.target=.fn (.func f) cap'∧fU E cap cap'∧fU E d.args d'.args)∨∃k b q,d.target=.collected k∧d'.target=.collected b∧E k=some (b,q)
def NR (E:Env):bT→Next→Prop
 | .val v,.value v'=>VR E v v'
 | .val v,.skip=>v=undef
 | .call f as,.enter f' cs=>f=f'∧fU E as cs
 | .defer d,.defer d'=>DR E d d'
 | .recover,.recover=>True
 | .round k ts a b,.round l _ cs a' b'=>a'=a∧b'=b∧(∃q,E k=some (l,q))∧fU E ts cs
 |_,_=>False
abbrev Ev:=Operand→Option Value
def evT (ev:Ev) (x:Operand):Value:=(ev x).getD undef
def jf (m:M I Value):M I bT:=m>>=fun v=>pure (.val v)
def PW (m:M I Unit):M I bT:=m>>=fun _=>pure (.val undef)
theorem aV {m:M I Value} {c:Sem Value} (h:az P lo w0 E H m c VR):az P lo w0 E H (jf m) (do pure (.value (←c)):Sem Next) NR:=
 az.bind h fun E1 a b hE hab=>az.pure fun E2 Bz=>hab.mono Bz
theorem rE {m:M I Unit} {c:Sem Unit} (h:az P lo w0 E H m c (fun _ _ _=>True)):az P lo w0 E H (PW m) (do c;pure .skip:Sem Next) NR:=
 az.bind h fun E1 a b hE hab=>az.pure fun E2 Bz=>rfl
def mW (P:Program) (ev:Ev) (o:Oper):M I bT:=
 bif o.op.operands.toList.all (fun x=>match ev x with|some v=>fD 3 v|none=>false) then
  match fZ P (execOp (evT ev) o) with
  |some (.value v)=>bif fD 3 v then pure (.val v) else fail
  |_=>fail
 else fail
theorem gS {ev:Ev} {ρ:Operand→Value} {o:Oper} (hρ:∀x v,ev x=some v→VR E v (ρ x)) (hs:∀cs b,o.op≠ .select cs b):az P lo w0 E H (mW P ev o:M I bT) (execOp ρ o) NR:=by
 unfold mW;cases hb:o.op.operands.toList.all (fun x=>match ev x with|some v=>fD 3 v|none=>false) with
 |false=>exact az.fail
 |true=>
  simp only [cond_true];have he:execOp (evT ev) o=execOp ρ o:=execOp_congr o hs fun x hx=>by
   have h1:=List.all_eq_true.1 hb x (by simpa using hx);unfold evT;cases hv:ev x with
   |none=>rw [hv] at h1;cases h1
   |some v=>
    rw [hv] at h1;exact(oP (hρ x v hv) 3 h1).symm
  split
  ·rename_i v hp;cases hg:fD 3 v with
   |false=>exact az.fail
   |true=>
    rw [he] at hp;exact az.leaf fun E1 g w hE _ _=>⟨_,lN hp w,cF E1 3 v hg⟩
  ·exact az.fail
def evs (ev:Ev):List Operand→Option (List Value)
 |[]=>some []
 |x::xs=>match ev x with
  |some v=>match evs ev xs with
   |some vs=>some (v::vs)
   |none=>none
  |none=>none
theorem Ga {ev:Ev} {ρ:Operand→Value} (hρ:∀x v,ev x=some v→VR E v (ρ x)):∀(xs:List Operand) (vs:List Value),evs ev xs=some vs→LR E vs (xs.map ρ)
 |[],vs,h=>by simp [evs] at h;subst h;exact⟨rfl,fun a c j ha=>by simp at ha⟩
 |x::xs,vs,h=>by
  simp only [evs] at h;split at h
  ·rename_i v hv;split at h
   ·rename_i yC wA;cases h;have ih:=Ga hρ xs yC wA;refine⟨by simp [ih.1],fun a c j ha hc=>?_⟩;rcases j with _|j
    ·simp at ha hc;subst ha;subst hc;exact hρ x v hv
    ·simp at ha hc;exact ih.2 a c j ha (by simpa using hc)
   ·cases h
  ·cases h
theorem LR.arr {as cs:List Value} (h:LR E as cs):fU E as.toArray cs.toArray:=⟨by simpa using h.1,fun a c j ha hc=>h.2 a c j jk (by simpa using hc)⟩
theorem fU.lst {as cs:Array Value} (h:fU E as cs):LR E as.toList cs.toList:=⟨by simpa using h.1,fun a c j ha hc=>h.2 a c j jk (by simpa using hc)⟩
theorem nB {ev:Ev} {ρ:Operand→Value} (hρ:∀x v,ev x=some v→VR E v (ρ x)) {xs:Array Operand} {vs:List Value} (h:evs ev xs.toList=some vs):fU E vs.toArray (xs.map ρ):=by
 have:=(Ga hρ _ _ h).arr
 rwa [show((xs.toList.map ρ).toArray:Array Value)=xs.map ρ by rw [←Array.toList_map]] at this
def II (ev:Ev):List (Nat × Operand)→Option (List (Nat × Value))
 |[]=>some []
 |(i,x)::xs=>match ev x with
  |some v=>match II ev xs with
   |some vs=>some ((i,v)::vs)
   |none=>none
  |none=>none
theorem vK {ev:Ev} {ρ:Operand→Value} (hρ:∀x v,ev x=some v→VR E v (ρ x)):∀(xs:List (Nat × Operand)) (vs:List (Nat × Value)),II ev xs=some vs→PR E vs (xs.map fun(i,x)=>(i,ρ x))
 |[],vs,h=>by simp [II] at h;subst h;trivial
 |(i,x)::xs,vs,h=>by
  simp only [II] at h;split at h
  ·rename_i v hv;split at h
   ·rename_i yC wA;cases h;exact⟨rfl,hρ x v hv,vK hρ xs yC wA⟩
   ·cases h
  ·cases h
def evo (ev:Ev):Option Operand→Option (Option Value)
 |none=>some none
 |some x=>match ev x with
  |some v=>some (some v)
  |none=>none
theorem Ac {ev:Ev} {ρ:Operand→Value} (hρ:∀x v,ev x=some v→VR E v (ρ x)) {x:Option Operand} {v:Option Value} (h:evo ev x=some v):OVR E v (x.map ρ):=by
 cases x with
 |none=>simp [evo] at h;subst h;trivial
 |some x=>
  simp only [evo] at h;split at h
  ·rename_i u hu;cases h;exact hρ x u hu
  ·cases h
def aei (P:Program) (src dst:TypeId) (x:Value):M I Value:=match P.underlying src,P.underlying dst,x with
 |some (.slice e),some .string,.slice (some ⟨k,o,_⟩) n _=>match P.underlying e with
  |some (.int .u8)=>rd k>>=fun ob=>match ob with
   | .cells c _ _=>bif Nat.ble (o+n) c.size then match bytesOf ((c.toList.drop o).take n) with
     |some bs=>pure (.string ⟨bs.toArray⟩)
     |none=>fail
    else fail
   |_=>fail
  |_=>fail
 |_,_,_=>fail
theorem qp:∀(l:List Value) (bs:List UInt8),bytesOf l=some bs→∃ns:List Int,l=ns.map (Value.int .u8)∧bs=ns.map fun n=>UInt8.ofNat n.toNat
 |[],bs,h=>by simp [bytesOf] at h;subst h;exact⟨[],rfl,rfl⟩
 |v::l,bs,h=>by
  unfold bytesOf at h;split at h
  ·rename_i h0;cases h0
  ·rename_i n l' h0;cases h0;split at h
   ·rename_i r hr;cases h;obtain⟨ns,rfl,rfl⟩:=qp l r hr;exact⟨n::ns,rfl,rfl⟩
   ·cases h
  ·cases h
theorem fold_push:∀(ns:List Int) (s:ByteArray),ns.foldl (fun r n=>r.push (UInt8.ofNat n.toNat)) s=⟨s.data++(ns.map fun n=>UInt8.ofNat n.toNat).toArray⟩
 |[],s=>by simp
 |n::ns,s=>by
  rw [List.foldl_cons,fold_push ns];congr 1;apply Array.toList_inj.1;simp [ByteArray.push]
theorem PX {src dst:TypeId} {x x':Value} (hx:VR E x x'):az P lo w0 E H (aei P src dst x:M I Value) (convert src dst x') VR:=by
 unfold aei;split
 ·rename_i e k o sp n cp hs hd;split
  ·rename_i he;have key:∀(b r c':Nat),E k=some (b,r)→az P lo w0 E H (rd k>>=fun ob=>match ob with
     | .cells c _ _=>bif Nat.ble (o+n) c.size then match bytesOf ((c.toList.drop o).take n) with
       |some bs=>(pure (.string ⟨bs.toArray⟩):M I Value)
       |none=>fail
      else fail
     |_=>fail) (convert src dst (.slice (some ⟨b,o,none⟩) n c')) VR:=fun b r c' hk=>by
    refine az.rd fun ob=>?_
    cases ob with
    |cells c e' fr=>
     cases hb:Nat.ble (o+n) c.size with
     |false=>simp only [hb];exact az.fail
     |true=>
      have hle:=Nat.le_of_ble_eq_true hb;simp only [hb,cond_true];split
      ·rename_i bs hbs;obtain⟨ns,h1,rfl⟩:=qp _ _ hbs;refine az.leaf fun E1 g w hE hR ⟨_,hg⟩=>?_
       obtain⟨cs,Ra,h2,h3,_,h4⟩:=hR.cells hg (hE _ _ hk);have akM:(cs.toList.drop o).take n=ns.map (Value.int .u8):=by
        rw [←h1];apply List.ext_getElem?;intro j;rw [cM,cM];split
        ·rename_i hj;have hc:c[o+j]?=some c[o+j]:=ak;have hc':cs[o+j]?=some cs[o+j]:=ak;have hv:=h4 _ _ _ hc hc';rw [hc,hc'];have zK:c[o+j]∈(c.toList.drop o).take n:=List.mem_of_getElem? (i:=j) (by rw [cM,if_pos hj,hc]);rw [h1] at zK;obtain⟨m,_,hm⟩:=List.mem_map.1 zK;rw [oP hv 0 (by rw [←hm];rfl)]
        ·rfl
       have hlen:((cs.toList.drop o).take n).length=n:=cr;have hl:=run_loadCells_list (P:=P) w ⟨b,o,none⟩ ((cs.toList.drop o).take n) (fun j v hj=>by
        rw [cM] at hj;split at hj
        ·rw [eN,cell_of h2];exact hj
        ·cases hj)
       rw [hlen,akM] at hl;refine⟨_,by rw [run_convert_bytes_string w src dst e _ n c' hs he hd,run_bytesToString w _ n c' ns hl], ?_⟩;rw [fold_push];have:(ByteArray.empty.data++(ns.map fun n=>UInt8.ofNat n.toNat).toArray)=(ns.map fun n=>UInt8.ofNat n.toNat).toArray:=by
        show(#[]:Array UInt8)++_=_;simp
       rw [this];exact .string _
      ·exact az.fail
    |_=>exact az.fail
   cases hx with
   |slice _ _ hk=>exact key _ _ _ hk
   |wide _ _ hk=>exact key _ _ _ hk
  ·exact az.fail
 ·exact az.fail
end Go.Am