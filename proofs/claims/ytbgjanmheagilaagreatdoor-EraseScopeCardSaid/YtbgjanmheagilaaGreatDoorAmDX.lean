/- A part of the proof. Conditions: none. -/
import Derived.WalkKit
import Derived.WalkSpells
import Derived.WalkLawsBesides
import Derived.Below
import Derived.Laws.CopyRow
import Derived.Laws.AppendOwn
import Derived.Laws.MakeOwn
import Derived.Laws.Tables
import Derived.Laws.Cells
import Derived.ChangeKeysEq
import Derived.Test.YtbgjanmheagilaaGreatDoorZz
import Derived.Laws.Build
import Derived.Laws.Slices
set_option linter.unusedVariables false
set_option linter.unusedSimpArgs false
set_option maxRecDepth 100000
set_option maxHeartbeats 8000000
namespace Go.Am
open Go Go.RowKit
inductive Trie (α:Type) where
 |leaf
 |node (v:Option α) (l r:Trie α)
noncomputable def abJ {β:Type} (c:Bool) (a b:β):β:=Bool.rec (motive:=fun _=>β) b a c
@[simp] theorem aaU {β : Type} (a b : β) : abJ true a b = a := rfl
@[simp] theorem XB {β : Type} (a b : β) : abJ false a b = b := rfl
noncomputable def afv {β:Type} (n:Nat) (z:β) (s:Nat→β):β:=Nat.rec (motive:=fun _=>β) z (fun k _=>s k) n
@[simp] theorem aaV {β : Type} (z : β) (s : Nat → β) : afv 0 z s = z := rfl
noncomputable def Trie.get {α:Type} (t:Trie α):Nat→Option α:=
 Trie.rec (motive:=fun _=>Nat→Option α) (fun _=>none) (fun v _ _ l r k=>Nat.rec (motive:=fun _=>Option α) v (fun k' _=>Nat.rec (motive:=fun _=>Option α) (l (Nat.div k' 2)) (fun _ _=>r (Nat.div k' 2)) (Nat.mod k' 2)) k) t
noncomputable def Trie.at_ {α β:Type} (t:Trie α) (a:β) (f:Option α→Trie α→Trie α→β):β:=Trie.rec (motive:=fun _=>β) a (fun v l r _ _=>f v l r) t
noncomputable def Trie.set {α:Type} (d:Nat):Trie α→Nat→Option α→Trie α:=
 Nat.rec (motive:=fun _=>Trie α→Nat→Option α→Trie α) (fun t _ _=>t)
  (fun _ ih t k x=>Nat.rec (motive:=fun _=>Trie α) (t.at_ (.node x .leaf .leaf) (fun _ l r=>.node x l r))
   (fun k' _=>Nat.rec (motive:=fun _=>Trie α)
    (t.at_ (.node none (ih .leaf (Nat.div k' 2) x) .leaf) (fun v l r=>.node v (ih l (Nat.div k' 2) x) r))
    (fun _ _=>t.at_ (.node none .leaf (ih .leaf (Nat.div k' 2) x)) (fun v l r=>.node v l (ih r (Nat.div k' 2) x))) (Nat.mod k' 2)) k) d
theorem Trie.Bk {α:Type} (k:Nat):(Trie.leaf:Trie α).get k=none:=rfl
theorem Trie.gG {α:Type} (v:Option α) (l r:Trie α):(Trie.node v l r).get 0=v:=rfl
theorem Trie.fh {α:Type} (v:Option α) (l r:Trie α) (j:Nat):(Trie.node v l r).get (2*j+1)=l.get j:=by
 show Nat.rec (motive:=fun _=>Option α) (l.get (Nat.div (2*j) 2)) (fun _ _=>r.get (Nat.div (2*j) 2)) (Nat.mod (2*j) 2)=_;exact Kt
theorem Trie.dQ {α:Type} (v:Option α) (l r:Trie α) (j:Nat):(Trie.node v l r).get (2*j+2)=r.get j:=by
 show Nat.rec (motive:=fun _=>Option α) (l.get (Nat.div (2*j+1) 2)) (fun _ _=>r.get (Nat.div (2*j+1) 2)) (Nat.mod (2*j+1) 2)=_;exact Ku
theorem Trie.Kv {α:Type} (d:Nat) (t:Trie α) (x:Option α):t.set (d+1) 0 x=t.at_ (.node x .leaf .leaf) (fun _ l r=>.node x l r):=rfl
theorem Trie.Kw {α:Type} (d:Nat) (t:Trie α) (j:Nat) (x:Option α):t.set (d+1) (2*j+1) x=t.at_ (.node none (Trie.leaf.set d j x) .leaf) (fun v l r=>.node v (l.set d j x) r):=by
 show Nat.rec (motive:=fun _=>Trie α) (t.at_ (.node none (Trie.leaf.set d (Nat.div (2*j) 2) x) .leaf) (fun v l r=>.node v (l.set d (Nat.div (2*j) 2) x) r)) (fun _ _=>t.at_ (.node none .leaf (Trie.leaf.set d (Nat.div (2*j) 2) x)) (fun v l r=>.node v l (r.set d (Nat.div (2*j) 2) x))) (Nat.mod (2*j) 2)=_;exact Kt
theorem Trie.HI {α:Type} (d:Nat) (t:Trie α) (j:Nat) (x:Option α):t.set (d+1) (2*j+2) x=t.at_ (.node none .leaf (Trie.leaf.set d j x)) (fun v l r=>.node v l (r.set d j x)):=by
 show Nat.rec (motive:=fun _=>Trie α) (t.at_ (.node none (Trie.leaf.set d (Nat.div (2*j+1) 2) x) .leaf) (fun v l r=>.node v (l.set d (Nat.div (2*j+1) 2) x) r)) (fun _ _=>t.at_ (.node none .leaf (Trie.leaf.set d (Nat.div (2*j+1) 2) x)) (fun v l r=>.node v l (r.set d (Nat.div (2*j+1) 2) x))) (Nat.mod (2*j+1) 2)=_;exact Ku
theorem ou (k:Nat):k=0∨(∃j,k=2*j+1)∨∃j,k=2*j+2:=by
 rcases Nat.eq_zero_or_pos k with h|h
 ·exact .inl h
 ·rcases Nat.mod_two_eq_zero_or_one k with h2|h2
  ·exact .inr (.inr ⟨k / 2 - 1,by omega⟩)
  ·exact .inr (.inl ⟨k / 2,by omega⟩)
theorem Trie.tC {α:Type}:∀(d:Nat) (t:Trie α) (k k':Nat) (v:Option α),k+1<2 ^ d→(t.set d k v).get k'=if k'=k then v else t.get k':=by
 intro d
 induction d with
 |zero=>intro t k k' v h;simp at h
 |succ d ih=>
  intro t k k' v h;have hd:2 ^ (d+1)=2*2 ^ d:=by rw [Nat.pow_succ];omega
  rcases ou k with rfl|⟨j,rfl⟩|⟨j,rfl⟩
  ·rw [Kv];cases t with
   |leaf=>
    show(Trie.node v .leaf .leaf).get k'=_;rcases ou k' with rfl|⟨i,rfl⟩|⟨i,rfl⟩
    ·simp [gG]
    ·rw [fh,if_neg aa];rfl
    ·rw [dQ,if_neg aa];rfl
   |node u l r=>
    show(Trie.node v l r).get k'=_;rcases ou k' with rfl|⟨i,rfl⟩|⟨i,rfl⟩
    ·simp [gG]
    ·rw [fh,if_neg aa,fh]
    ·rw [dQ,if_neg aa,dQ]
  ·rw [Kw];have hj:j+1<2 ^ d:=aa;cases t with
   |leaf=>
    show(Trie.node none (Trie.leaf.set d j v) .leaf).get k'=_;rcases ou k' with rfl|⟨i,rfl⟩|⟨i,rfl⟩
    ·rw [gG,if_neg aa];rfl
    ·rw [fh,ih _ _ _ _ hj];have:(2*i+1=2*j+1)=(i=j):=by apply propext;omega
     simp only [this,Bk]
    ·rw [dQ,if_neg aa];rfl
   |node u l r=>
    show(Trie.node u (l.set d j v) r).get k'=_;rcases ou k' with rfl|⟨i,rfl⟩|⟨i,rfl⟩
    ·rw [gG,if_neg aa,gG]
    ·rw [fh,ih _ _ _ _ hj,fh];have:(2*i+1=2*j+1)=(i=j):=by apply propext;omega
     simp only [this]
    ·rw [dQ,if_neg aa,dQ]
  ·rw [HI];have hj:j+1<2 ^ d:=aa;cases t with
   |leaf=>
    show(Trie.node none .leaf (Trie.leaf.set d j v)).get k'=_;rcases ou k' with rfl|⟨i,rfl⟩|⟨i,rfl⟩
    ·rw [gG,if_neg aa];rfl
    ·rw [fh,if_neg aa];rfl
    ·rw [dQ,ih _ _ _ _ hj];have:(2*i+2=2*j+2)=(i=j):=by apply propext;omega
     simp only [this,Bk]
   |node u l r=>
    show(Trie.node u l (r.set d j v)).get k'=_;rcases ou k' with rfl|⟨i,rfl⟩|⟨i,rfl⟩
    ·rw [gG,if_neg aa,gG]
    ·rw [fh,if_neg aa,fh]
    ·rw [dQ,ih _ _ _ _ hj,dQ];have:(2*i+2=2*j+2)=(i=j):=by apply propext;omega
     simp only [this]
structure dP where
 lo:Nat
 G:Nat
structure gT (μ:Type) where
 get:μ→Nat→Option Obj
 set:μ→Nat→Option Obj→μ
 ok:Nat→Bool
 law:∀m k o k',ok k=true→get (set m k o) k'=if k'=k then o else get m k'
noncomputable def Ux:gT (Trie Obj) where
 get m k:=m.get k
 set m k o:=m.set 24 k o
 ok k:=Nat.blt k 16777215
 law m k o k' h:=Trie.tC 24 m k k' o (by simp [Nat.blt] at h;omega)
structure St (μ:Type) where
 next:Nat
 mem:μ
 T:Nat
 W:Nat
variable {μ:Type} {I:gT μ}
structure St.Le (I:gT μ) (s s':St μ):Prop where
 next:s.next≤s'.next
 T:∀k,s.T.testBit k=true→s'.T.testBit k=true
 W:∀k,s.W.testBit k=true→s'.W.testBit k=true
 mem:∀k,s'.W.testBit k=false→I.get s'.mem k=I.get s.mem k
theorem St.Le.refl (s:St μ):St.Le I s s:=⟨Nat.le_refl _,fun _ h=>h,fun _ h=>h,fun _ _=>rfl⟩
theorem St.Le.trans {a b c:St μ} (h:St.Le I a b) (k:St.Le I b c):St.Le I a c:=
 ⟨Nat.le_trans h.next k.next,fun i hi=>k.T i (h.T i hi),fun i hi=>k.W i (h.W i hi),fun i hi=>by
  rw [k.mem i hi];refine h.mem i ?_;cases e:b.W.testBit i
  ·rfl
  ·rw [k.W i e] at hi;cases hi⟩
structure M (I:gT μ) (α:Type):Type where
 run:St μ→Option (α × St μ)
 le:∀s a s',run s=some (a,s')→St.Le I s s'
def M.pure {α:Type} (a:α):M I α:=⟨fun s=>some (a,s),fun s b s' h=>by cases h;exact .refl s⟩
def M.bind {α β:Type} (m:M I α) (f:α→M I β):M I β:=
 ⟨fun s=>match m.run s with
  |none=>none
  |some (a,s1)=>(f a).run s1,fun s b s' h=>by
   cases e:m.run s with
   |none=>rw [e] at h;cases h
   |some x=>obtain⟨a,s1⟩:=x;rw [e] at h;exact(m.le _ _ _ e).trans ((f a).le _ _ _ h)⟩
def fail {α:Type}:M I α:=⟨fun _=>none,fun _ _ _ h=>by cases h⟩
instance:Monad (M I) where
 pure:=M.pure
 bind:=M.bind
theorem pure_run {α:Type} {a b:α} {s s':St μ} (h:(Pure.pure a:M I α).run s=some (b,s')):b=a∧s'=s:=by
 cases h;exact⟨rfl,rfl⟩
theorem ax {α β:Type} {m:M I α} {f:α→M I β} {s s':St μ} {b:β} (h:(m>>=f).run s=some (b,s')):∃a s1,m.run s=some (a,s1)∧(f a).run s1=some (b,s'):=by
 change (M.bind m f).run s=_ at h;simp only [M.bind] at h;cases e:m.run s with
 |none=>rw [e] at h;cases h
 |some x=>obtain⟨a,s1⟩:=x;rw [e] at h;exact⟨a,s1,rfl,h⟩
theorem aB {α:Type} {s s':St μ} {b:α} (h:(fail:M I α).run s=some (b,s')):False:=by cases h
theorem cx (n k i:Nat):(n|||1<<<k).testBit i=(n.testBit i||decide (i=k)):=by
 rw [Nat.testBit_or,Nat.testBit_shiftLeft];congr 1;have one:∀j,Nat.testBit 1 j=decide (j=0):=fun j=>by
  rcases j with _|j
  ·rfl
  ·simp [Nat.testBit_succ]
 rw [one];by_cases h:i=k
 ·subst h;simp
 ·by_cases h2:k≤i
  ·have:i - k≠0:=by omega
   simp [this,h]
  ·simp [h2,h]
def rd (k:Nat):M I Obj:=⟨fun s=>match I.get s.mem k with
  |none=>none
  |some o=>some (o,⟨s.next,s.mem,bif s.T.testBit k then s.T else s.T|||1<<<k,s.W⟩),fun s a s' h=>by
 cases e:I.get s.mem k with
 |none=>rw [e] at h;cases h
 |some o=>
  rw [e] at h;cases h;refine⟨Nat.le_refl _,fun i hi=>?_,fun _ h=>h,fun _ _=>rfl⟩;cases hb:s.T.testBit k<;>simp only [hb,cond_true,cond_false,cx,hi,Bool.true_or]⟩
theorem ow {k:Nat} {s s':St μ} {o:Obj} (h:(rd k:M I Obj).run s=some (o,s')):
  I.get s.mem k=some o∧s'.next=s.next∧s'.mem=s.mem∧s'.W=s.W∧s'.T.testBit k=true:=by
 simp only [rd] at h;cases e:I.get s.mem k with
 |none=>rw [e] at h;cases h
 |some o=>
  rw [e] at h;cases h;refine⟨rfl,rfl,rfl,rfl, ?_⟩;cases hb:s.T.testBit k
  ·simp only [cond_false,cx,decide_true,Bool.or_true]
  ·simp only [cond_true,hb]
def wr (lo:dP) (k:Nat) (o:Option Obj):M I Unit:=⟨fun s=>
  bif Nat.ble lo.lo k && I.ok k && (I.get s.mem k).isSome then
   some ((),⟨s.next,I.set s.mem k o,s.T,bif s.W.testBit k then s.W else s.W|||1<<<k⟩)
  else none,fun s a s' h=>by
 cases e:(Nat.ble lo.lo k && I.ok k && (I.get s.mem k).isSome) with
 |false=>rw [e] at h;cases h
 |true=>
  rw [e] at h;cases h;simp only [Bool.and_eq_true] at e;refine⟨Nat.le_refl _,fun _ h=>h,fun i hi=>?_,fun i hi=>?_⟩
  ·cases hb:s.W.testBit k<;>simp only [cond_true,cond_false,cx,hi,Bool.true_or]
  ·simp only [I.law _ _ _ _ e.1.2];rw [if_neg];intro e2;subst e2;cases hb:s.W.testBit i
   ·simp only [hb,cond_false,cx,decide_true,Bool.or_true] at hi;cases hi
   ·simp only [hb,cond_true] at hi;cases hi⟩
theorem zi {lo:dP} {k:Nat} {s s':St μ} {o:Option Obj} {u:Unit} (h:(wr lo k o:M I Unit).run s=some (u,s')):
  lo.lo≤k∧(∃o0,I.get s.mem k=some o0)∧s'.next=s.next∧s'.T=s.T∧(∀i,s'.W.testBit i=(s.W.testBit i||decide (i=k)))∧
   ∀i,I.get s'.mem i=if i=k then o else I.get s.mem i:=by
 simp only [wr] at h;cases e:(Nat.ble lo.lo k && I.ok k && (I.get s.mem k).isSome) with
 |false=>rw [e] at h;cases h
 |true=>
  rw [e] at h;cases h;simp only [Bool.and_eq_true] at e;obtain⟨⟨e1,e2⟩,e3⟩:=e;refine⟨Nat.le_of_ble_eq_true e1,Option.isSome_iff_exists.1 e3,rfl,rfl,fun i=>?_,fun i=>I.law _ _ _ _ e2⟩;cases hb:s.W.testBit k
  ·simp only [cond_false,cx]
  ·by_cases hi:i=k
   ·subst hi;simp [hb]
   ·simp [hi]
def new (o:Obj):M I Nat:=⟨fun s=>
  bif I.ok s.next && !(I.get s.mem s.next).isSome then
   some (s.next,⟨s.next+1,I.set s.mem s.next (some o),s.T,s.W|||1<<<s.next⟩)
  else none,fun s a s' h=>by
 cases e:(I.ok s.next && !(I.get s.mem s.next).isSome) with
 |false=>rw [e] at h;cases h
 |true=>
  rw [e] at h;cases h;simp only [Bool.and_eq_true] at e;refine⟨Nat.le_succ _,fun _ h=>h,fun i hi=>?_,fun i hi=>?_⟩
  ·simp only [cx,hi,Bool.true_or]
  ·simp only [I.law _ _ _ _ e.1];rw [if_neg];intro e2;subst e2;simp only [cx,decide_true,Bool.or_true] at hi;cases hi⟩
theorem zj {s s':St μ} {o:Obj} {k:Nat} (h:(new o:M I Nat).run s=some (k,s')):
  k=s.next∧I.get s.mem k=none∧s'.next=s.next+1∧s'.T=s.T∧(∀i,s'.W.testBit i=(s.W.testBit i||decide (i=k)))∧
   ∀i,I.get s'.mem i=if i=k then some o else I.get s.mem i:=by
 simp only [new] at h;cases e:(I.ok s.next && !(I.get s.mem s.next).isSome) with
 |false=>rw [e] at h;cases h
 |true=>
  rw [e] at h;cases h;simp only [Bool.and_eq_true] at e;obtain⟨e1,e2⟩:=e;refine⟨rfl,by simpa using e2,rfl,rfl,fun i=>cx _ _ _,fun i=>I.law _ _ _ _ e1⟩
abbrev Env:=Nat→Option (Nat × Nat)
inductive VR (E:Env):Value→Value→Prop
 |bool (b:Bool):VR E (.bool b) (.bool b)
 |int (k:IntKind) (n:Int):VR E (.int k n) (.int k n)
 |float (k:FloatKind) (n:Nat):VR E (.float k n) (.float k n)
 |DW (k:FloatKind) (n m:Nat):VR E (.complex k n m) (.complex k n m)
 |string (s:ByteArray):VR E (.string s) (.string s)
 |DX:VR E (.pointer none) (.pointer none)
 |ptr {k o b r:Nat}:E k=some (b,r)→VR E (.pointer (some ⟨k,o,none⟩)) (.pointer (some ⟨b,o,none⟩))
 |qI (n c:Nat):VR E (.slice none n c) (.slice none n c)
 |slice {k o b r:Nat} (n c:Nat):E k=some (b,r)→VR E (.slice (some ⟨k,o,none⟩) n c) (.slice (some ⟨b,o,none⟩) n c)
 |wide {k o b r:Nat} (n c:Nat):E k=some (b,r)→VR E (.slice (some ⟨k,o,some 0⟩) n c) (.slice (some ⟨b,o,none⟩) n (c+r))
 |DY:VR E (.map none) (.map none)
 |map {k b r:Nat}:E k=some (b,r)→VR E (.map (some k)) (.map (some b))
 |func {f:FuncId} {as bs cs ds:Array Value}:as.size=cs.size→(∀a c:Value,∀j:Nat,as[j]?=some a→cs[j]?=some c→VR E a c)→
   bs.size=ds.size→(∀a c:Value,∀j:Nat,bs[j]?=some a→ds[j]?=some c→VR E a c)→VR E (.func (.func f) as bs) (.func (.func f) cs ds)
 |yield {l b r:Nat}:E l=some (b,r)→VR E (.func (.yield l) #[] #[]) (.func (.yield b) #[] #[])
 |DZ:VR E .nilFunc .nilFunc
 |iface {v v':Value} (t:TypeId):VR E v v'→VR E (.iface t v) (.iface t v')
 |Bn:VR E .nilIface .nilIface
 |agg {as cs:Array Value}:as.size=cs.size→(∀a c:Value,∀j:Nat,as[j]?=some a→cs[j]?=some c→VR E a c)→VR E (.agg as) (.agg cs)
 |tuple {as cs:Array Value}:as.size=cs.size→(∀a c:Value,∀j:Nat,as[j]?=some a→cs[j]?=some c→VR E a c)→VR E (.tuple as) (.tuple cs)
def fQ (E:Env) (as cs:Array Value):Prop:=as.size=cs.size∧∀a c:Value,∀j:Nat,as[j]?=some a→cs[j]?=some c→VR E a c
structure Env.Ext (E E':Env) (a b:Nat):Prop where
 keep:∀k x,E k=some x→E' k=some x
 dom:∀k,E' k≠none→E k≠none∨(a≤k∧k<b)
theorem Env.Ext.refl (E:Env) (a:Nat):Env.Ext E E a a:=⟨fun _ _ h=>h,fun _ h=>.inl h⟩
theorem Env.Ext.trans {E E1 E2:Env} {a b c:Nat} (h:Env.Ext E E1 a b) (k:Env.Ext E1 E2 b c) (hab:a≤b) (hbc:b≤c):Env.Ext E E2 a c:=
 ⟨fun i x hi=>k.keep i x (h.keep i x hi),fun i hi=>by
  rcases k.dom i hi with h1|h1
  ·rcases h.dom i h1 with h2|h2
   ·exact .inl h2
   ·exact .inr aa
  ·exact .inr aa⟩
theorem VR.mono {E E':Env} (hE:∀k x,E k=some x→E' k=some x) {v v':Value} (h:VR E v v'):VR E' v v':=by
 induction h with
 |bool b=>exact .bool b
 |int k n=>exact .int k n
 |float k n=>exact .float k n
 |DW k n m=>exact .DW k n m
 |string s=>exact .string s
 |DX=>exact .DX
 |ptr h=>exact .ptr (hE _ _ h)
 |qI n c=>exact .qI n c
 |slice n c h=>exact .slice n c (hE _ _ h)
 |wide n c h=>exact .wide n c (hE _ _ h)
 |DY=>exact .DY
 |map h=>exact .map (hE _ _ h)
 |func h1 h2 h3 h4 i1 i2=>exact .func h1 i1 h3 i2
 |yield h=>exact .yield (hE _ _ h)
 |DZ=>exact .DZ
 |iface t h ih=>exact .iface t ih
 |Bn=>exact .Bn
 |agg h1 h2 ih=>exact .agg h1 ih
 |tuple h1 h2 ih=>exact .tuple h1 ih
theorem fQ.mono {E E':Env} (hE:∀k x,E k=some x→E' k=some x) {as cs:Array Value} (h:fQ E as cs):fQ E' as cs:=
 ⟨h.1,fun a c j ha hc=>(h.2 a c j ha hc).mono hE⟩
def eu:Nat→Value→Bool
 |_,.bool _|_,.int _ _|_,.float _ _|_,.complex _ _ _|_,.string _|_,.pointer none|_,.slice none _ _|_,.map none|_,.nilFunc|_,.nilIface=>true
 |n+1,.iface _ v=>eu n v
 |n+1,.agg cs=>cs.toList.all (eu n)
 |n+1,.tuple cs=>cs.toList.all (eu n)
 |_,.func (.func _) ⟨[]⟩ ⟨[]⟩=>true
 |_,_=>false
theorem gU {cs:Array Value} {p:Value→Bool} (h:cs.toList.all p=true) {j:Nat} {a:Value} (ha:cs[j]?=some a):p a=true:=by
 rw [List.all_eq_true] at h;exact h a (by rw [←Array.getElem?_toList] at ha;exact List.mem_of_getElem? ha)
theorem bT (E:Env):∀(n:Nat) (v:Value),eu n v=true→VR E v v:=by
 intro n
 induction n with
 |zero=>
  intro v h;cases v with
  |bool b=>exact .bool b
  |int k n=>exact .int k n
  |float k n=>exact .float k n
  |complex k n m=>exact .DW k n m
  |string s=>exact .string s
  |pointer a=>cases a<;>simp [eu] at h;exact .DX
  |slice a n c=>cases a<;>simp [eu] at h;exact .qI n c
  |map r=>cases r<;>simp [eu] at h;exact .DY
  |chan r=>simp [eu] at h
  |func fn as bs=>
   unfold eu at h;split at h<;>first|(simp at h;done)|skip
   all_goals first
    |cases ‹_=Value.func _ _ _›
    |skip
   all_goals simp_all
   exact .func rfl (fun _ _ j h=>by simp at h) rfl (fun _ _ j h=>by simp at h)
  |nilFunc=>exact .DZ
  |iface t v=>simp [eu] at h
  |nilIface=>exact .Bn
  |agg cs=>simp [eu] at h
  |tuple cs=>simp [eu] at h
 |succ n ih=>
  intro v h;cases v with
  |bool b=>exact .bool b
  |int k n=>exact .int k n
  |float k n=>exact .float k n
  |complex k n m=>exact .DW k n m
  |string s=>exact .string s
  |pointer a=>cases a<;>simp [eu] at h;exact .DX
  |slice a n c=>cases a<;>simp [eu] at h;exact .qI n c
  |map r=>cases r<;>simp [eu] at h;exact .DY
  |chan r=>simp [eu] at h
  |func fn as bs=>
   unfold eu at h;split at h<;>first|(simp at h;done)|skip
   all_goals simp_all
   exact .func rfl (fun _ _ j h=>by simp at h) rfl (fun _ _ j h=>by simp at h)
  |nilFunc=>exact .DZ
  |iface t v=>exact .iface t (ih v h)
  |nilIface=>exact .Bn
  |agg cs=>exact .agg rfl fun a c j ha hc=>by rw [ha] at hc;cases hc;exact ih a (gU h ha)
  |tuple cs=>exact .tuple rfl fun a c j ha hc=>by rw [ha] at hc;cases hc;exact ih a (gU h ha)
end Go.Am
/- A part of the proof. Conditions: none. -/
set_option maxRecDepth 100000
set_option maxHeartbeats 8000000
namespace Go.Am
open Go Go.RowKit
variable {μ:Type} {I:gT μ}
theorem VR.L8 {E:Env} {as cs:Array Value} {n:Nat} (hs:as.size=cs.size) (hg:as.toList.all (eu n)=true)
  (h:∀a c:Value,∀j:Nat,as[j]?=some a→cs[j]?=some c→eu n a=true→c=a):cs=as:=by
 apply Array.ext hs.symm;intro j h1 h2;exact h as[j] cs[j] j ai ai (gU hg (by simp:as[j]?=some as[j]))
theorem ot {E:Env} {v v':Value} (h:VR E v v'):∀n,eu n v=true→v'=v:=by
 induction h with
 |bool b=>exact fun _ _=>rfl
 |int k n=>exact fun _ _=>rfl
 |float k n=>exact fun _ _=>rfl
 |DW k n m=>exact fun _ _=>rfl
 |string s=>exact fun _ _=>rfl
 |DX=>exact fun _ _=>rfl
 |ptr h=>intro n hg;cases n<;>simp [eu] at hg
 |qI n c=>exact fun _ _=>rfl
 |slice n c h=>intro n hg;cases n<;>simp [eu] at hg
 |wide n c h=>intro n hg;cases n<;>simp [eu] at hg
 |DY=>exact fun _ _=>rfl
 |map h=>intro n hg;cases n<;>simp [eu] at hg
 | @func f as bs cs ds h1 h2 h3 h4 i1 i2=>
  intro n hg;have:as=#[]∧bs=#[]:=by
   obtain⟨la⟩:=as;obtain⟨lb⟩:=bs;cases la with
   |nil=>cases lb with
    |nil=>exact⟨rfl,rfl⟩
    |cons x l=>cases n<;>simp [eu] at hg
   |cons x l=>cases n<;>simp [eu] at hg
  obtain⟨rfl,rfl⟩:=this;have e1:cs=#[]:=Array.eq_empty_of_size_eq_zero h1.symm;have e2:ds=#[]:=Array.eq_empty_of_size_eq_zero h3.symm;rw [e1,e2]
 |yield h=>intro n hg;cases n<;>simp [eu] at hg
 |DZ=>exact fun _ _=>rfl
 |iface t h ih=>
  intro n hg;cases n with
  |zero=>simp [eu] at hg
  |succ n=>rw [ih n hg]
 |Bn=>exact fun _ _=>rfl
 | @agg as cs h1 h2 ih=>
  exact L9
 | @tuple as cs h1 h2 ih=>
  exact L9
theorem VR.undef (E:Env):VR E undef undef:=.tuple rfl fun a c j h=>by simp at h
inductive OR (P:Program) (E:Env) (r:Nat):Obj→Obj→Prop
 |cells {as cs:Array Value} {e:TypeId}:as.size+r*P.cellsOf e=cs.size→(∀a c:Value,∀j:Nat,as[j]?=some a→cs[j]?=some c→VR E a c)→OR P E r (.cells as e (0,0)) (.cells cs e (0,0))
 |seen {as cs:Array Value} {e:TypeId} {fr:Nat × Nat}:as.size=cs.size→(∀a c:Value,∀j:Nat,as[j]?=some a→cs[j]?=some c→VR E a c)→OR P E r (.cells as e (1,0)) (.cells cs e fr)
 |map {es cs:Array MapEntry} (clock:Nat):es.size=cs.size→(∀a c:MapEntry,∀j:Nat,es[j]?=some a→cs[j]?=some c→c.key=a.key∧c.born=a.born∧VR E a.val c.val)→
   OR P E r (.map es clock) (.map cs clock)
 |iter (s:ByteArray) (p:Nat):OR P E r (.stringIter s p) (.stringIter s p)
 |loop {x y:Loop} {q:Nat}:y.state=x.state→y.pending=x.pending→y.params=x.params→y.assign=x.assign→y.body=x.body→x.tmps.size=y.tmps.size→(∀a c:Value,∀j:Nat,x.tmps[j]?=some a→y.tmps[j]?=some c→VR E a c)→E x.defers=some (y.defers,q)→OR P E r (.loop x) (.loop y)
 |collected:OR P E r (.deferred (some [])) (.deferred (some []))
 |shut:OR P E r (.deferred none) (.deferred none)
theorem OR.mono {P:Program} {E E':Env} {r:Nat} {o co:Obj} (hE:∀k x,E k=some x→E' k=some x) (h:OR P E r o co):OR P E' r o co:=by
 cases h with
 |cells h1 h2=>exact .cells h1 (fun a c j ha hc=>(h2 a c j ha hc).mono hE)
 |seen h1 h2=>exact .seen h1 (fun a c j ha hc=>(h2 a c j ha hc).mono hE)
 |map clock h1 h2=>exact .map clock h1 fun a c j ha hc=>let ⟨x,y,z⟩:=h2 a c j ha hc;⟨x,y,z.mono hE⟩
 |iter s p=>exact .iter s p
 |loop h1 h2 h3 h4 h5 h6 h7 h8=>exact .loop h1 h2 h3 h4 h5 h6 (fun a c j ha hc=>(h7 a c j ha hc).mono hE) (hE _ _ h8)
 |collected=>exact .collected
 |shut=>exact .shut
structure Bs where
 w:World
 E:Env
structure Rel (P:Program) (lo:dP) (w0:Bs) (E:Env) (g:Nat→Option Obj) (w:World):Prop where
 below:Below w0.w.heap.size w0.w w
 tie:∀k o,g k=some o→∃b r co,E k=some (b,r)∧w.heap[b]?=some co∧OR P E r o co
 inj:∀k k' o o' b r r',g k=some o→g k'=some o'→E k=some (b,r)→E k'=some (b,r')→k=k'
 own:∀k b r,lo.lo≤k→E k=some (b,r)→w0.w.heap.size≤b
 old:∀k,k<lo.G→E k=some (k,0)
 kept:∀k x,w0.E k=some x→E k=some x
def dh (I:gT μ) (s s':St μ) (g:Nat→Option Obj):Prop:=∀k,(s'.T.testBit k||s'.W.testBit k)=true→g k=I.get s.mem k
def eR (s s':St μ) (E:Env):Prop:=∀k,s.next≤k→k<s'.next→E k=none
def merge (I:gT μ) (s':St μ) (g:Nat→Option Obj):Nat→Option Obj:=fun k=>if s'.W.testBit k=true then I.get s'.mem k else g k
theorem dh.first {s s1 s':St μ} {g:Nat→Option Obj} (h:dh I s s' g) (hl:St.Le I s1 s'):dh I s s1 g:=fun k hk=>by
 refine h k ?_;rw [Bool.or_eq_true] at hk ⊢;exact hk.imp (hl.T k) (hl.W k)
theorem dh.second {s s1 s':St μ} {g:Nat→Option Obj} (h:dh I s s' g) (hl0:St.Le I s s1) (hl:St.Le I s1 s'):dh I s1 s' (merge I s1 g):=fun k hk=>by
 unfold merge;split
 ·rfl
 ·rename_i hw;rw [h k hk];exact(hl0.mem k (by simpa using hw)).symm
theorem jm {s1 s':St μ} (g:Nat→Option Obj) (hl:St.Le I s1 s'):merge I s' (merge I s1 g)=merge I s' g:=by
 funext k;unfold merge;split
 ·rfl
 ·rename_i hw;rw [if_neg];intro h;exact hw (hl.W k h)
theorem eH {s s':St μ} {g:Nat→Option Obj} (hA:dh I s s' g) (hW:∀k,s'.W.testBit k=s.W.testBit k) (hm:∀k,I.get s'.mem k=I.get s.mem k):merge I s' g=g:=by
 funext k;unfold merge;split
 ·rename_i h;rw [hm,hA k (by rw [h,Bool.or_true])]
 ·rfl
theorem gI {s s':St μ} {g:Nat→Option Obj} {k0:Nat} {o:Option Obj} (hA:dh I s s' g) (hW:∀k,s'.W.testBit k=(s.W.testBit k||decide (k=k0))) (hm:∀k,I.get s'.mem k=if k=k0 then o else I.get s.mem k):
  merge I s' g=fun k=>if k=k0 then o else g k:=by
 funext k;unfold merge;by_cases e:k=k0
 ·subst e;simp [hW,hm]
 ·simp only [hm,e,if_false];split
  ·rename_i h;rw [hA k (by rw [h,Bool.or_true])]
  ·rfl
structure ue (b:Nat) (co:Obj) (w w':World):Prop where
 os:w'.os=w.os
 tape:w'.tape=w.tape
 output:w'.output=w.output
 size:w'.heap.size=w.heap.size
 at_:w'.heap[b]?=some co
 other:∀i,i≠b→w'.heap[i]?=w.heap[i]?
variable {P:Program} {lo:dP} {w0:Bs}
theorem Rel.lt {E:Env} {g:Nat→Option Obj} {w:World} (h:Rel P lo w0 E g w) {k:Nat} {o:Obj} {b r:Nat} (hg:g k=some o) (hE:E k=some (b,r)):b<w.heap.size:=by
 obtain⟨b',r',co,h1,h2,_⟩:=h.tie k o hg;rw [h1] at hE;cases hE;exact(Array.getElem?_eq_some_iff.1 h2).1
theorem Rel.write {E:Env} {g:Nat→Option Obj} {w w':World} (h:Rel P lo w0 E g w) {k0 b r:Nat} {o0 o:Obj} {co:Obj} (hg:g k0=some o0) (hE:E k0=some (b,r)) (PG:lo.lo≤k0)
  (hw:ue b co w w') (ho:OR P E r o co):Rel P lo w0 E (fun k=>if k=k0 then some o else g k) w':=by
 refine⟨?_, ?_, ?_,h.own,h.old,h.kept⟩
 ·refine h.below.trans ⟨hw.os,hw.tape,hw.output,Nat.le_of_eq hw.size.symm,fun i hi=>hw.other i ?_⟩;have:=h.own k0 b r PG hE;omega
 ·intro k o' hk;by_cases e:k=k0
  ·subst e;simp at hk;subst hk;exact⟨b,r,co,hE,hw.at_,ho⟩
  ·simp [e] at hk;obtain⟨b',r',co',h1,h2,h3⟩:=h.tie k o' hk;refine⟨b',r',co',h1, ?_,h3⟩;rw [hw.other b' ?_]
   ·exact h2
   ·intro eb;subst eb;exact e (h.inj _ _ _ _ _ _ _ hk hg h1 hE)
 ·intro k k' o1 o2 b' r1 r2 h1 h2 e1 e2;have:∀i o',(if i=k0 then some o else g i)=some o'→∃o'',g i=some o'':=fun i o' hi=>by
   by_cases e:i=k0
   ·subst e;exact⟨o0,hg⟩
   ·simp [e] at hi;exact⟨o',hi⟩
  obtain⟨o1',Yi⟩:=this _ _ h1;obtain⟨o2',h2'⟩:=this _ _ h2;exact h.inj _ _ _ _ _ _ _ Yi h2' e1 e2
theorem Rel.kill {E:Env} {g:Nat→Option Obj} {w:World} (h:Rel P lo w0 E g w) (k0:Nat):Rel P lo w0 E (fun k=>if k=k0 then none else g k) w:=by
 have:∀i o',(if i=k0 then none else g i)=some o'→g i=some o':=fun i o' hi=>by
  by_cases e:i=k0
  ·simp [e] at hi
  ·simpa [e] using hi
 exact⟨h.below,fun k o hk=>h.tie k o (this k o hk),fun k k' o o' b r r' h1 h2=>h.inj k k' o o' b r r' (this _ _ h1) (this _ _ h2),h.own,h.old,h.kept⟩
def Env.put (E:Env) (k b r:Nat):Env:=fun i=>if i=k then some (b,r) else E i
theorem Env.ey {E:Env} {k b r:Nat} (h:E k=none):∀i x,E i=some x→E.put k b r i=some x:=fun i x hi=>by
 unfold Env.put;split
 ·rename_i e;subst e;rw [h] at hi;cases hi
 ·exact hi
theorem Rel.name {E:Env} {g:Nat→Option Obj} {w w':World} (h:Rel P lo w0 E g w) {k b r:Nat} {o co:Obj} (hk:E k=none) (hb:Below w0.w.heap.size w0.w w') (UQ:w0.w.heap.size≤b)
  (hat:w'.heap[b]?=some co) (Yj:∀i,i≠b→i<w.heap.size→w'.heap[i]?=w.heap[i]?)
  (hun:∀i o' r',g i=some o'→E i≠some (b,r')) (ho:OR P (E.put k b r) r o co):Rel P lo w0 (E.put k b r) (fun i=>if i=k then some o else g i) w':=by
 have jJ:=Env.ey (b:=b) (r:=r) hk;have hne:∀i o',g i=some o'→i≠k:=fun i o' hi e=>by
  subst e;obtain⟨b',r',co',h1,_⟩:=h.tie _ _ hi;rw [hk] at h1;cases h1
 refine⟨hb, ?_, ?_, ?_, ?_,fun i x hi=>jJ i x (h.kept i x hi)⟩
 ·intro i o' hi;by_cases e:i=k
  ·subst e;simp at hi;subst hi;exact⟨b,r,co,by simp [Env.put],hat,ho⟩
  ·simp [e] at hi;obtain⟨b',r',co',h1,h2,h3⟩:=h.tie i o' hi;refine⟨b',r',co',jJ _ _ h1, ?_,h3.mono jJ⟩;rw [Yj b' (fun eb=>hun i o' r' hi (eb ▸ h1)) (Array.getElem?_eq_some_iff.1 h2).1];exact h2
 ·intro i i' o1 o2 b' r1 r2 h1 h2 e1 e2;by_cases e:i=k
  ·by_cases e':i'=k
   ·rw [e,e']
   ·subst e;simp [e'] at h2;simp [Env.put] at e1;simp [Env.put,e'] at e2;obtain⟨rfl,rfl⟩:=e1;exact absurd e2 (hun _ _ _ h2)
  ·by_cases e':i'=k
   ·subst e';simp [e] at h1;simp [Env.put] at e2;simp [Env.put,e] at e1;obtain⟨rfl,rfl⟩:=e2;exact absurd e1 (hun _ _ _ h1)
   ·simp [e] at h1;simp [e'] at h2;simp [Env.put,e] at e1;simp [Env.put,e'] at e2;exact h.inj _ _ _ _ _ _ _ h1 h2 e1 e2
 ·intro i b' r' hi he;by_cases e:i=k
  ·subst e;simp [Env.put] at he;omega
  ·simp [Env.put,e] at he;exact h.own i b' r' hi he
 ·intro i hi;exact jJ _ _ (h.old i hi)
def au (P:Program) (lo:dP) (w0:Bs) {α β:Type} (E:Env) (H:(Nat→Option Obj)→Prop) (m:M I α) (c:Sem β) (R:Env→α→β→Prop):Prop:=
 ∀s a s',m.run s=some (a,s')→∀E1 g w,(∀k x,E k=some x→E1 k=some x)→Rel P lo w0 E1 g w→dh I s s' g→eR s s' E1→H g→
  ∃E' b w',c.run P w=.ok b w'∧Env.Ext E1 E' s.next s'.next∧R E' a b∧Rel P lo w0 E' (merge I s' g) w'
def P6:(Nat→Option Obj)→Prop:=fun _=>True
section
variable {α β γ δ:Type} {E:Env} {H:(Nat→Option Obj)→Prop}
theorem eR.first {s s1 s':St μ} {E:Env} (h:eR s s' E) (hl:s1.next≤s'.next):eR s s1 E:=fun k h1 h2=>h k h1 aa
theorem eR.second {s s1 s':St μ} {E E1:Env} (h:eR s s' E) (hx:Env.Ext E E1 s.next s1.next) (hl:s.next≤s1.next):eR s1 s' E1:=fun k h1 h2=>by
 cases e:E1 k with
 |none=>rfl
 |some x=>
  rcases hx.dom k (by simp [e]) with h3|h3
  ·exact absurd (h k aa h2) h3
  ·omega
theorem au.bind {m:M I α} {c:Sem β} {f:α→M I γ} {f':β→Sem δ} {R:Env→α→β→Prop} {R':Env→γ→δ→Prop}
  (h:au P lo w0 E H m c R) (h2:∀E1 a b,(∀k x,E k=some x→E1 k=some x)→R E1 a b→au P lo w0 E1 P6 (f a) (f' b) R'):au P lo w0 E H (m>>=f) (c>>=f') R':=by
 intro s a s' hr E1 g w hE hR hA hF hH;obtain⟨a1,s1,hr1,hr2⟩:=ax hr;have l1:=m.le _ _ _ hr1;have l2:=(f a1).le _ _ _ hr2;obtain⟨E2,b,w1,hc,hx,hab,nu⟩:=h s a1 s1 hr1 E1 g w hE hR (hA.first l2) (hF.first l2.next) hH;obtain⟨E3,d,w2,hc2,hx2,kn,qM⟩:=h2 E2 a1 b (fun k x hk=>hx.keep k x (hE k x hk)) hab s1 a s' hr2 E2 (merge I s1 g) w1 (fun _ _ h=>h) nu (hA.second l1 l2) (hF.second hx l1.next) trivial;refine⟨E3,d,w2, ?_,hx.trans hx2 l1.next l2.next,kn, ?_⟩
 ·rw [Sem.run_bind,hc];exact hc2
 ·rw [jm g l2] at qM;exact qM
theorem au.leaf {a:α} {c:Sem β} {R:Env→α→β→Prop} (h:∀E1 g w,(∀k x,E k=some x→E1 k=some x)→Rel P lo w0 E1 g w→H g→∃b,c.run P w=.ok b w∧R E1 a b):au P lo w0 E H (Pure.pure a:M I α) c R:=by
 intro s a' s' hr E1 g w hE hR hA hF hH;obtain⟨rfl,rfl⟩:=pure_run hr;obtain⟨b,hb,hab⟩:=h E1 g w hE hR hH;refine⟨E1,b,w,hb,.refl _ _,hab, ?_⟩;rw [eH hA (fun _=>rfl) (fun _=>rfl)];exact hR
theorem au.pure {a:α} {b:β} {R:Env→α→β→Prop} (h:∀E1,(∀k x,E k=some x→E1 k=some x)→R E1 a b):au P lo w0 E H (Pure.pure a:M I α) (Pure.pure b) R:=
 au.leaf fun E1 g w hE _ _=>⟨b,rfl,h E1 hE⟩
theorem au.fail {c:Sem β} {R:Env→α→β→Prop}:au P lo w0 E H (Am.fail:M I α) c R:=fun s a s' hr=>(aB hr).elim
theorem au.rd {k:Nat} {f:Obj→M I α} {c:Sem β} {R:Env→α→β→Prop} (h:∀o,au P lo w0 E (fun g=>H g∧g k=some o) (f o) c R):au P lo w0 E H (rd k>>=f) c R:=by
 intro s a s' hr E1 g w hE hR hA hF hH;obtain⟨o,s1,hr1,hr2⟩:=ax hr;have l1:=(Am.rd k).le _ _ _ hr1;have l2:=(f o).le _ _ _ hr2;obtain⟨e1,e2,e3,e4,e5⟩:=ow hr1;have hm:merge I s1 g=g:=eH (hA.first l2) (fun k=>by rw [e4]) (fun k=>by rw [e3]);have iY:dh I s1 s' g:=by have:=hA.second l1 l2;rwa [hm] at this
 have hg:g k=some o:=Ma;obtain⟨E2,b,w1,h1,h2,h3,h4⟩:=h o s1 a s' hr2 E1 g w hE hR iY (fun i h1 h2=>hF i aa h2) ⟨hH,hg⟩;exact⟨E2,b,w1,h1,by rw [←e2];exact h2,h3,h4⟩
theorem au.wr {k:Nat} {o:Obj} {a:α} {c:Sem β} {R:Env→α→β→Prop} (h:∀E1 g w,(∀k x,E k=some x→E1 k=some x)→Rel P lo w0 E1 g w→H g→∀o0,g k=some o0→lo.lo≤k→
  ∃b w' bl r co,c.run P w=.ok b w'∧E1 k=some (bl,r)∧ue bl co w w'∧OR P E1 r o co∧R E1 a b):au P lo w0 E H (wr lo k (some o)>>=fun _=>(Pure.pure a:M I α)) c R:=by
 intro s a' s' hr E1 g w hE hR hA hF hH;obtain⟨u,s1,hr1,hr2⟩:=ax hr;obtain⟨rfl,rfl⟩:=pure_run hr2;obtain⟨e1,⟨o0,e2⟩,e3,e4,e5,e6⟩:=zi hr1;have hg:g k=some o0:=by rw [hA k (by rw [e5];simp),e2]
 obtain⟨b,w',bl,r,co,h1,h2,h3,h4,h5⟩:=h E1 g w hE hR hH o0 hg e1;refine⟨E1,b,w',h1,⟨fun _ _ h=>h,fun _ h=>.inl h⟩,h5, ?_⟩;rw [gI hA e5 e6];exact hR.write hg h2 e1 h3 h4
theorem au.new {o:Obj} {f:Nat→α} {c:Sem β} {R:Env→α→β→Prop} (h:∀E1 g w k,(∀k x,E k=some x→E1 k=some x)→Rel P lo w0 E1 g w→H g→E1 k=none→
  ∃b w' r co,c.run P w=.ok b w'∧Below w0.w.heap.size w0.w w'∧w'.heap[w.heap.size]?=some co∧(∀i,i<w.heap.size→w'.heap[i]?=w.heap[i]?)∧OR P (E1.put k w.heap.size r) r o co∧R (E1.put k w.heap.size r) (f k) b):
  au P lo w0 E H (new o>>=fun k=>(Pure.pure (f k):M I α)) c R:=by
 intro s a' s' hr E1 g w hE hR hA hF hH;obtain⟨k,s1,hr1,hr2⟩:=ax hr;obtain⟨rfl,rfl⟩:=pure_run hr2;obtain⟨rfl,e2,e3,e4,e5,e6⟩:=zj hr1;have hk:E1 s.next=none:=hF s.next (Nat.le_refl _) aa;obtain⟨b,w',r,co,h1,h2,h3,h4,h5,h6⟩:=h E1 g w s.next hE hR hH hk;refine⟨E1.put s.next w.heap.size r,b,w',h1,⟨Env.ey hk,fun i hi=>?_⟩,h6, ?_⟩
 ·exact Mc
 ·rw [gI hA e5 e6];refine hR.name hk h2 hR.below.size h3 (fun i _ hi=>h4 i hi) (fun i o' r' hi he=>?_) h5;exact absurd (hR.lt hi he) (Nat.lt_irrefl _)
theorem au.left {m:M I α} {c:Sem β} {b:β} {f':β→Sem δ} {R:Env→α→δ→Prop} (hc:∀w,c.run P w=.ok b w) (h:au P lo w0 E H m (f' b) R):au P lo w0 E H m (c>>=f') R:=by
 intro s a s' hr E1 g w hE hR hA hF hH;obtain⟨E2,d,w1,h1,h2⟩:=h s a s' hr E1 g w hE hR hA hF hH;exact⟨E2,d,w1,by rw [Sem.run_bind,hc];exact h1,h2⟩
theorem au.pG {m:M I α} {c c':Sem β} {R:Env→α→β→Prop} (hc:∀w,c'.run P w=c.run P w) (h:au P lo w0 E H m c R):au P lo w0 E H m c' R:=by
 intro s a s' hr E1 g w hE hRl hA hF hH;obtain⟨E2,d,w1,h1,h2,h3,h4⟩:=h s a s' hr E1 g w hE hRl hA hF hH;exact⟨E2,d,w1,by rw [hc];exact h1,h2,h3,h4⟩
theorem au.weak {m:M I α} {c:Sem β} {R:Env→α→β→Prop} {H':(Nat→Option Obj)→Prop} (h:au P lo w0 E H m c R) (hH:∀g,H' g→H g):au P lo w0 E H' m c R:=
 fun s a s' hr E1 g w hE hRl hA hF hH'=>h s a s' hr E1 g w hE hRl hA hF (hH g hH')
end
end Go.Am
/- A part of the proof. Conditions: none. -/
set_option maxRecDepth 100000
set_option maxHeartbeats 8000000
namespace Go.Am
open Go Go.RowKit
variable {μ:Type} {I:gT μ} {P:Program} {lo:dP} {w0:Bs} {E:Env} {H:(Nat→Option Obj)→Prop}
def fe {α:Type} (P:Program):Sem α→Option α
 | .pure a=>some a
 | .program k=>fe P (k P)
 | .mark _ k=>fe P k
 |_=>none
theorem lR {α:Type} {c:Sem α} {b:α} (h:fe P c=some b) (w:World):c.run P w=.ok b w:=by
 induction c with
 |pure a=>simp [fe] at h;subst h;rfl
 |program k ih=>simp only [fe] at h;exact ih P h
 |mark m k ih=>simp only [fe] at h;exact ih h
 |_=>simp [fe] at h
def arg (ev:Operand→Option Value) (x:Operand):M I Value:=match ev x with
 |some v=>pure v
 |none=>fail
theorem kS {α β:Type} (a:α) (f:α→M I β):((Pure.pure a:M I α)>>=f).run=(f a).run:=rfl
theorem au.congr {α β:Type} {m m':M I α} {c:Sem β} {R:Env→α→β→Prop} (he:m.run=m'.run) (h:au P lo w0 E H m' c R):au P lo w0 E H m c R:=
 fun s a s' hr=>h s a s' (by rw [←he];exact hr)
theorem au.arg {α β:Type} {ev:Operand→Option Value} {ρ:Operand→Value} {x:Operand} {f:Value→M I α} {c:Sem β} {R:Env→α→β→Prop}
  (hρ:∀x v,ev x=some v→VR E v (ρ x)) (h:∀v,VR E v (ρ x)→au P lo w0 E H (f v) c R):au P lo w0 E H (arg ev x>>=f) c R:=by
 unfold Am.arg;cases e:ev x with
 |none=>exact fun s a s' hr=>by obtain⟨a1,s1,h1,h2⟩:=ax hr;exact(aB h1).elim
 |some v=>exact au.congr (kS v f) (h v (hρ x v e))
theorem Rel.cells {g:Nat→Option Obj} {w:World} (h:Rel P lo w0 E g w) {k:Nat} {c:Array Value} {e:TypeId} {fr:Nat × Nat} (hg:g k=some (.cells c e fr)) {b r:Nat} (hE:E k=some (b,r)):
  ∃cs Qy,w.heap[b]?=some (.cells cs e Qy)∧c.size≤cs.size∧(fr=(0,0)→Qy=(0,0)∧c.size+r*P.cellsOf e=cs.size)∧∀a v:Value,∀j:Nat,c[j]?=some a→cs[j]?=some v→VR E a v:=by
 obtain⟨b',r',co,h1,h2,h3⟩:=h.tie k _ hg;rw [h1] at hE;cases hE;cases h3 with
 |cells hs hv=>exact⟨_,_,h2,by omega,fun _=>⟨rfl,hs⟩,hv⟩
 |seen hs hv=>exact⟨_,_,h2,by omega,fun h=>absurd h ay,hv⟩
theorem info_of_underlying {t:TypeId} {d:TypeDesc} (h:P.underlying t=some d):∃i,P.info? t=some i:=by
 unfold Program.underlying at h;cases hi:P.info? t with
 |none=>rw [hi] at h;cases h
 |some i=>exact⟨i,rfl⟩
theorem oX {t:TypeId} {i:TypeInfo} (h:P.info? t=some i):P.cellsOf t=i.size:=by simp [Program.cellsOf,h]
def Bq (P:Program) (t:TypeId):Option Bool:=match P.underlying t with
 |some (.struct _)=>some true
 |some (.array _ _)=>some true
 |some _=>some false
 |none=>none
theorem pF {t:TypeId} {b:Bool} (h:Bq P t=some b) (w:World):(isAgg t).run P w=.ok b w:=by
 unfold Bq at h;split at h<;>first|(cases h;done)|skip
 all_goals
  rename_i hu;cases h;simp [isAgg,run_underlying hu]
theorem xm {t:TypeId} {b:Bool} (h:Bq P t=some b):∃i,P.info? t=some i:=by
 unfold Bq at h;split at h
 ·rename_i hu;exact info_of_underlying hu
 ·rename_i hu;exact info_of_underlying hu
 ·rename_i hu;exact info_of_underlying hu
 ·cases h
def loadAt (P:Program) (t:TypeId) (k o:Nat):M I Value:=do
 match←rd k with
 | .cells c _ _=>
  match Bq P t with
  |some true=>bif Nat.ble (o+P.cellsOf t) c.size then pure (.agg ((c.toList.drop o).take (P.cellsOf t)).toArray) else fail
  |some false=>match c[o]? with
   |some v=>pure v
   |none=>fail
  |none=>fail
 |_=>fail
def BG (P:Program) (t:TypeId):Value→M I Value
 | .pointer (some ⟨k,o,none⟩)=>loadAt P t k o
 |_=>fail
theorem dH (b o j:Nat):(⟨b,o,none⟩:Addr).add j=⟨b,o+j,none⟩:=by unfold Addr.add;split<;>simp_all
theorem cell_of {w:World} {b:Nat} {cs:Array Value} {e:TypeId} {fr:Nat × Nat} (h:w.heap[b]?=some (.cells cs e fr)) (o:Nat):w.cell? ⟨b,o,none⟩=cs[o]?:=by
 simp [World.cell?,h]
theorem bO (c:Array Value) (o n j:Nat):((c.toList.drop o).take n)[j]?=if j<n then c[o+j]? else none:=by
 rw [List.getElem?_take];split
 ·simp
 ·rfl
theorem wz {t:TypeId} {k o b r:Nat} (hk:E k=some (b,r)):au P lo w0 E H (loadAt P t k o:M I Value) (loadVar t ⟨b,o,none⟩) VR:=by
 unfold loadAt;refine au.rd fun ob=>?_
 cases ob with
 |cells c e fr=>
  cases ha:Bq P t with
  |none=>exact au.fail
  |some bb=>
   obtain⟨i,hi⟩:=xm ha;cases bb with
   |true=>
    cases hb:Nat.ble (o+P.cellsOf t) c.size with
    |false=>simp only [hb];exact au.fail
    |true=>
     simp only [hb];refine au.leaf fun E1 g w hE hR ⟨_,hg⟩=>?_
     obtain⟨cs,Qy,h1,h2,_,h3⟩:=hR.cells hg (hE _ _ hk);have hle:=Nat.le_of_ble_eq_true hb;have hlen:((cs.toList.drop o).take (P.cellsOf t)).length=P.cellsOf t:=aV;have hl:=run_loadCells_list (P:=P) w ⟨b,o,none⟩ ((cs.toList.drop o).take (P.cellsOf t)) (fun j v hj=>by
      rw [bO] at hj;split at hj
      ·rw [dH,cell_of h1];exact hj
      ·cases hj)
     rw [hlen] at hl;refine⟨.agg ((cs.toList.drop o).take (P.cellsOf t)).toArray, ?_, ?_⟩
     ·have hsz:(sizeOf t).run P w=.ok (P.cellsOf t) w:=run_sizeOf w hi;simp [loadVar,pF ha,hsz,hl]
     ·refine .agg aV fun a v j hj hv=>?_
      simp only [List.getElem?_toArray,bO] at hj hv;split at hj
      ·rw [if_pos (by assumption)] at hv;exact h3 a v _ hj hv
      ·cases hj
   |false=>
    cases hc:c[o]? with
    |none=>simp only [hc];exact au.fail
    |some v=>
     simp only [hc];refine au.leaf fun E1 g w hE hR ⟨_,hg⟩=>?_
     obtain⟨cs,Qy,h1,h2,_,h3⟩:=hR.cells hg (hE _ _ hk);have ho:o<cs.size:=by have:=(Array.getElem?_eq_some_iff.1 hc).1;omega
     refine⟨cs[o], ?_,h3 v _ o hc (by simp [ho])⟩;simp [loadVar,pF ha,cell_of h1,ho]
 |_=>exact au.fail
theorem Jp {t:TypeId} {v v':Value} (h:VR E v v'):au P lo w0 E H (BG P t v:M I Value) (Instr.loadAt t v') VR:=by
 unfold BG;split
 ·cases h with
  |ptr hk=>exact au.left (b:=_) (fun w=>rfl) (wz hk)
 ·exact au.fail
theorem VR.cells {v v':Value} (h:VR E v v'):fQ E v.cells v'.cells:=by
 have one:∀{x x':Value},VR E x x'→fQ E #[x] #[x']:=fun {x x'} hx=>⟨rfl,fun a c j ha hc=>by
  rcases j with _|j
  ·simp at ha hc;subst ha;subst hc;exact hx
  ·simp at ha⟩
 cases h with
 |agg h1 h2=>exact⟨h1,h2⟩
 |bool b=>exact one (.bool b)
 |int k n=>exact one (.int k n)
 |float k n=>exact one (.float k n)
 |DW k n m=>exact one (.DW k n m)
 |string s=>exact one (.string s)
 |DX=>exact one .DX
 |ptr h=>exact one (.ptr h)
 |qI n c=>exact one (.qI n c)
 |slice n c h=>exact one (.slice n c h)
 |wide n c h=>exact one (.wide n c h)
 |DY=>exact one .DY
 |map h=>exact one (.map h)
 |func h1 h2 h3 h4=>exact one (.func h1 h2 h3 h4)
 |yield h=>exact one (.yield h)
 |DZ=>exact one .DZ
 |iface t h=>exact one (.iface t h)
 |Bn=>exact one .Bn
 |tuple h1 h2=>exact one (.tuple h1 h2)
theorem VR.one {v v':Value} (h:VR E v v'):v'.oneCell'=v.oneCell':=by cases h<;>rfl
def mZ (c:Array Value) (o:Nat) (vs:List Value):Array Value:=(c.toList.take o++vs++c.toList.drop (o+vs.length)).toArray
theorem lz (c:Array Value) (o:Nat) (vs:List Value) (h:o+vs.length≤c.size) (j:Nat):(mZ c o vs)[j]?=if j<o then c[j]? else if j<o+vs.length then vs[j - o]? else c[j]?:=by
 have h1:(c.toList.take o).length=o:=aV;unfold mZ;simp only [List.getElem?_toArray,List.append_assoc];by_cases h2:j<o
 ·rw [List.getElem?_append_left aa,List.getElem?_take,if_pos h2,if_pos h2];simp
 ·rw [List.getElem?_append_right aa,h1,if_neg h2];by_cases h3:j<o+vs.length
  ·rw [List.getElem?_append_left aa,if_pos h3]
  ·rw [List.getElem?_append_right aa,if_neg h3,List.getElem?_drop];rw [show o+vs.length+(j - o - vs.length)=j by omega];simp
theorem sR (c:Array Value) (o:Nat) (vs:List Value) (h:o+vs.length≤c.size):(mZ c o vs).size=c.size:=by
 unfold mZ;simp;omega
theorem FN {c cs:Array Value} {o:Nat} {vs zP:List Value} (h:o+vs.length≤c.size) (hc:c.size≤cs.size) (hl:vs.length=zP.length)
  (h1:∀a v:Value,∀j:Nat,c[j]?=some a→cs[j]?=some v→VR E a v) (h2:∀a v:Value,∀j:Nat,vs[j]?=some a→zP[j]?=some v→VR E a v):
  ∀a v:Value,∀j:Nat,(mZ c o vs)[j]?=some a→(mZ cs o zP)[j]?=some v→VR E a v:=by
 intro a v j ha hv;rw [lz c o vs h] at ha;rw [lz cs o zP aa] at hv;by_cases e:j<o
 ·rw [if_pos e] at ha hv;exact h1 a v j ha hv
 ·rw [if_neg e] at ha hv;by_cases e2:j<o+vs.length
  ·rw [if_pos e2] at ha;rw [if_pos aa] at hv;exact h2 a v _ ha hv
  ·rw [if_neg e2] at ha;rw [if_neg aa] at hv;exact h1 a v j ha hv
theorem nZ {w:World} {b:Nat} {old cs:Array Value} {t:TypeId} {fr:Nat × Nat} (h:w.heap[b]?=some (.cells old t fr)):ue b (.cells cs t fr) w (w.setRow b cs):=
 ⟨rfl,rfl,rfl,by simp,setRow_heap w b old cs t fr h,fun i hi=>setRow_other w b i cs hi⟩
def Kk (lo:dP) (k o:Nat) (vs:List Value):M I Unit:=do
 match←rd k with
 | .cells c e (0,0)=>bif Nat.ble (o+vs.length) c.size && vs.all Value.oneCell' then wr lo k (some (.cells (mZ c o vs) e (0,0)))>>=fun _=>pure () else fail
 |_=>fail
theorem lQ {k o b r:Nat} {vs zP:List Value} (hk:E k=some (b,r)) (hl:vs.length=zP.length) (hv:∀a v:Value,∀j:Nat,vs[j]?=some a→zP[j]?=some v→VR E a v):
  au P lo w0 E H (Kk lo k o vs:M I Unit) (storeCells ⟨b,o,none⟩ zP) (fun _ _ _=>True):=by
 unfold Kk;refine au.rd fun ob=>?_
 split
 ·rename_i c e;cases hb:(Nat.ble (o+vs.length) c.size && vs.all Value.oneCell') with
  |false=>exact au.fail
  |true=>
   simp only [Bool.and_eq_true] at hb;have hle:=Nat.le_of_ble_eq_true hb.1;refine au.wr fun E1 g w hE hR ⟨_,hg⟩ o0 hg0 PG=>?_
   obtain⟨cs,Qy,h1,h2,h4,h3⟩:=hR.cells hg (hE _ _ hk);obtain⟨rfl,h5⟩:=h4 rfl;have yR:∀v∈zP,v.oneCell'=true:=fun v hv'=>by
    obtain⟨j,hj,rfl⟩:=List.getElem_of_mem hv';have hj':j<vs.length:=aa;have:=(hv vs[j] zP[j] j (by simp [hj']) (by simp [hj])).one;rw [this];exact List.all_eq_true.1 hb.2 _ (List.getElem_mem _)
   have hst:=run_storeCells_at P b o e zP 0 cs w h1 aa yR;refine⟨(),_,b,r,.cells (mZ cs o zP) e (0,0),hst,hE _ _ hk,nZ h1,.cells ?_ ?_,trivial⟩
   ·rw [sR _ _ _ aa,sR _ _ _ aa];exact h5
   ·exact FN hle h2 hl h3 fun a v j ha hv'=>(hv a v j ha hv').mono hE
 ·exact au.fail
def Fi (P:Program) (lo:dP) (t:TypeId) (p v:Value):M I Unit:=match p with
 | .pointer (some ⟨k,o,none⟩)=>match P.info? t with
  |some i=>bif Nat.beq v.cells.size i.size then Kk lo k o v.cells.toList else fail
  |none=>fail
 |_=>fail
theorem Fo {t:TypeId} {p p' v v':Value} (hp:VR E p p') (hv:VR E v v'):au P lo w0 E H (Fi P lo t p v:M I Unit) (Instr.storeAt t p' v') (fun _ _ _=>True):=by
 unfold Fi;split
 ·cases hp with
  |ptr hk=>
   cases hi:P.info? t with
   |none=>exact au.fail
   |some i=>
    cases hb:Nat.beq v.cells.size i.size with
    |false=>simp only [hb];exact au.fail
    |true=>
     simp only [hb];have hsz:=Nat.eq_of_beq_eq_true hb;have hc:=hv.cells;refine au.pG (c:=storeCells _ v'.cells.toList) (fun w=>?_) (lQ hk (by simpa using hc.1) fun a u j ha hu=>hc.2 a u j jd (by simpa using hu));have:¬(v'.cells.size≠i.size):=by rw [←hc.1,hsz];simp
     simp [Instr.storeAt,Instr.sureAddr,storeVar,sizeOf,typeInfo,hi,this]
 ·exact au.fail
theorem eB (w:World) (o:Obj):(w.alloc o).heap[w.heap.size]?=some o:=heap_alloc_new w o
theorem Rel.alloc {g:Nat→Option Obj} {w:World} (h:Rel P lo w0 E g w) (o:Obj):Below w0.w.heap.size w0.w (w.alloc o):=h.below.alloc h.below.size o
def aaL (e:TypeId) (cs:Array Value):M I Value:=new (.cells cs e (0,0))>>=fun k=>pure (.pointer (some ⟨k,0,none⟩))
theorem Di {e:TypeId} {cs cs':Array Value} (h:fQ E cs cs') {c:Sem Value} (hc:∀w,c.run P w=.ok (.pointer (some ⟨w.heap.size,0,none⟩)) (w.alloc (.cells cs' e (0,0)))):au P lo w0 E H (aaL e cs:M I Value) c VR:=
 au.new fun E1 g w k hE hR _ hk=>⟨_,_,0,_,hc w,hR.alloc _,eB w _,fun i hi=>Below.heap_alloc w _ i hi,
  .cells (by rw [Nat.zero_mul];exact h.1) (fun a v j ha hv=>((h.2 a v j ha hv).mono hE).mono (Env.ey hk)),.ptr (r:=0) (by simp [Env.put])⟩
def zeroOf (P:Program) (t:TypeId):Option Value:=match P.info? t with
 |some i=>match i.zero with
  |some z=>bif eu 3 z then some z else none
  |none=>none
 |none=>none
theorem bH {t:TypeId} {z:Value} (h:zeroOf P t=some z) (w:World):(zeroValue t).run P w=.ok z w∧eu 3 z=true:=by
 unfold zeroOf at h;split at h
 ·rename_i i hi;split at h
  ·rename_i z' hz;cases hg:eu 3 z' with
   |false=>simp [hg] at h
   |true=>
    simp [hg] at h;subst h;exact⟨by simp [zeroValue,typeInfo,hi,hz],hg⟩
  ·cases h
 ·cases h
def Fj (P:Program) (t:TypeId):M I Value:=match zeroOf P t with
 |some z=>aaL t z.cells
 |none=>fail
theorem Fl {t:TypeId}:au P lo w0 E H (Fj P t:M I Value) (Instr.alloc t true (.tuple #[])) VR:=by
 unfold Fj;split
 ·rename_i z hz;refine Di (bT E 3 z (bH hz default).2).cells fun w=>?_
  simp [Instr.alloc,(bH hz w).1,newVar,newRow]
 ·exact au.fail
def ad0 (t:TypeId) (v:Value):M I Value:=aaL t v.cells
theorem O7 {t:TypeId} {v v':Value} (h:VR E v v'):au P lo w0 E H (ad0 t v:M I Value) (Instr.box t v') VR:=
 Di h.cells fun w=>by simp [Instr.box,newVar,newRow]
end Go.Am
/- A part of the proof. Conditions: none. -/
set_option maxRecDepth 100000
set_option maxHeartbeats 8000000
namespace Go.Am
open Go Go.RowKit
variable {μ:Type} {I:gT μ} {P:Program} {lo:dP} {w0:Bs} {E:Env} {H:(Nat→Option Obj)→Prop}
theorem au.val {v:Value} {c:Sem Value} (h:∃v',(∀w,c.run P w=.ok v' w)∧VR E v v'):au P lo w0 E H (Pure.pure v:M I Value) c VR:=by
 obtain⟨v',h1,h2⟩:=h;exact au.leaf fun E1 g w hE _ _=>⟨v',h1 w,h2.mono hE⟩
def zk (P:Program) (t:TypeId) (x:Value):M I Value:=match P.underlying t with
 |some (.interface _)=>fail
 |some _=>pure (.iface t x)
 |none=>fail
theorem Bo {t:TypeId} {x x':Value} (h:VR E x x'):au P lo w0 E H (zk P t x:M I Value) (Instr.makeInterface t x') VR:=by
 unfold zk;split
 ·exact au.fail
 ·rename_i d hn hd;refine au.val ⟨.iface t x',fun w=>run_makeInterface w t x' ?_,.iface t h⟩;unfold Program.concrete;rw [hd];cases d<;>first|rfl|exact absurd rfl (hn _)
 ·exact au.fail
def zl (P:Program) (x:Value) (t:TypeId) (ok:Bool):M I Value:=match P.underlying t with
 |some (.interface _)=>fail
 |none=>fail
 |some _=>match x with
  | .iface t' v=>bif Nat.beq t' t then pure (bif ok then .tuple #[v,.bool true] else v) else
   bif ok then match zeroOf P t with
    |some z=>pure (.tuple #[z,.bool false])
    |none=>fail
   else fail
  | .nilIface=>bif ok then match zeroOf P t with
    |some z=>pure (.tuple #[z,.bool false])
    |none=>fail
   else fail
  |_=>fail
theorem VR.pair {a a' b b':Value} (h:VR E a a') (k:VR E b b'):VR E (.tuple #[a,b]) (.tuple #[a',b']):=
 .tuple rfl fun x y j hx hy=>by
  rcases j with _|_|j
  ·simp at hx hy;subst hx;subst hy;exact h
  ·simp at hx hy;subst hx;subst hy;exact k
  ·simp at hx
theorem lT {t:TypeId} {d:TypeDesc} (hd:P.underlying t=some d) (hn:∀ms,d≠ .interface ms) (v:Value) (xT:TypeId) (ok:Bool) (w:World):
  (Instr.typeAssert (.iface t v) xT t ok).run P w=.ok (if ok then .tuple #[v,.bool true] else v) w:=by
 cases d<;>first|exact absurd rfl (hn _)|(simp [Instr.typeAssert,run_underlying hd])
theorem sU {t t':TypeId} {d:TypeDesc} (hd:P.underlying t=some d) (hn:∀ms,d≠ .interface ms) (ht:t'≠t) (v z:Value) (xT:TypeId) (w:World) (hz:(zeroValue t).run P w=.ok z w):
  (Instr.typeAssert (.iface t' v) xT t true).run P w=.ok (.tuple #[z,.bool false]) w:=by
 cases d<;>first|exact absurd rfl (hn _)|(simp [Instr.typeAssert,run_underlying hd,ht,hz])
theorem uf {t:TypeId} {d:TypeDesc} (hd:P.underlying t=some d) (hn:∀ms,d≠ .interface ms) (z:Value) (xT:TypeId) (w:World) (hz:(zeroValue t).run P w=.ok z w):
  (Instr.typeAssert .nilIface xT t true).run P w=.ok (.tuple #[z,.bool false]) w:=by
 cases d<;>first|exact absurd rfl (hn _)|(simp [Instr.typeAssert,run_underlying hd,hz])
theorem Bp {x x':Value} {xT t:TypeId} {ok:Bool} (h:VR E x x'):au P lo w0 E H (zl P x t ok:M I Value) (Instr.typeAssert x' xT t ok) VR:=by
 unfold zl;split
 ·exact au.fail
 ·exact au.fail
 ·rename_i d hn hd;cases h with
  |iface t' hv=>
   cases hb:Nat.beq t' t with
   |true=>
    simp only [hb,cond_true];have:=Nat.eq_of_beq_eq_true hb;subst this;cases ok with
    |true=>exact au.val ⟨_,fun w=>(lT hd hn _ _ true w).trans (by rw [if_pos rfl]),VR.pair hv (.bool true)⟩
    |false=>exact au.val ⟨_,fun w=>(lT hd hn _ _ false w).trans (by rw [if_neg ay]),hv⟩
   |false=>
    simp only [hb,cond_false];have hne:t'≠t:=fun e=>by subst e;simp at hb
    cases ok with
    |true=>
     simp only [cond_true];split
     ·rename_i z hz;exact au.val ⟨_,fun w=>sU hd hn hne _ _ _ w (bH hz w).1,VR.pair (bT E 3 z (bH hz default).2) (.bool false)⟩
     ·exact au.fail
    |false=>exact au.fail
  |Bn=>
   cases ok with
   |true=>
    simp only [cond_true];split
    ·rename_i z hz;exact au.val ⟨_,fun w=>uf hd hn _ _ w (bH hz w).1,VR.pair (bT E 3 z (bH hz default).2) (.bool false)⟩
    ·exact au.fail
   |false=>exact au.fail
  |_=>exact au.fail
def FZ (P:Program) (t:TypeId) (cs:Array Value) (off:Nat):M I Value:=match Bq P t with
 |some true=>bif Nat.ble (off+P.cellsOf t) cs.size then pure (.agg ((cs.toList.drop off).take (P.cellsOf t)).toArray) else fail
 |some false=>match cs[off]? with
  |some v=>pure v
  |none=>fail
 |none=>fail
theorem extract_eq (cs:Array Value) (off n:Nat):cs.extract off (off+n)=((cs.toList.drop off).take n).toArray:=by
 apply Array.toList_inj.1;simp [List.take_drop,Nat.add_comm]
theorem xj {t:TypeId} {cs cs':Array Value} {off:Nat} (h:fQ E cs cs'):au P lo w0 E H (FZ P t cs off:M I Value) (part t cs' off) VR:=by
 unfold FZ;cases ha:Bq P t with
 |none=>exact au.fail
 |some b=>
  obtain⟨i,hi⟩:=xm ha;cases b with
  |true=>
   cases hb:Nat.ble (off+P.cellsOf t) cs.size with
   |false=>simp only [hb];exact au.fail
   |true=>
    simp only [hb];have hle:=Nat.le_of_ble_eq_true hb;refine au.val ⟨.agg ((cs'.toList.drop off).take (P.cellsOf t)).toArray,fun w=>?_,.agg ?_ fun a v j hj hv=>?_⟩
    ·have hsz:(sizeOf t).run P w=.ok (P.cellsOf t) w:=run_sizeOf w hi;simp only [part,Sem.run_bind,pF ha,Result.andThen_ok,if_true,hsz,Sem.run_pure,extract_eq]
    ·simp;have:=h.1;omega
    ·simp only [List.getElem?_toArray,bO] at hj hv;split at hj
     ·rw [if_pos (by assumption)] at hv;exact h.2 a v _ hj hv
     ·cases hj
  |false=>
   cases hc:cs[off]? with
   |none=>simp only [hc];exact au.fail
   |some v=>
    simp only [hc];have ho:off<cs'.size:=by have:=(Array.getElem?_eq_some_iff.1 hc).1;have:=h.1;omega
    refine au.val ⟨cs'[off],fun w=>?_,h.2 v _ off hc (by simp [ho])⟩;simp [part,pF ha,ho]
def D1 (P:Program) (t:TypeId) (x:Value) (f:Nat):M I Value:=match P.underlying t with
 |some (.struct fs)=>match fs[f]? with
  |some fd=>match x with
   | .agg cs=>FZ P fd.type cs fd.offset
   |_=>fail
  |none=>fail
 |_=>fail
theorem D2 {t:TypeId} {x x':Value} {f:Nat} (h:VR E x x'):au P lo w0 E H (D1 P t x f:M I Value) (Instr.field t x' f) VR:=by
 unfold D1;split
 ·rename_i fs hu;split
  ·rename_i fd hf;cases h with
   |agg h1 h2=>
    refine au.pG (c:=part fd.type _ fd.offset) (fun w=>?_) (xj ⟨h1,h2⟩);simp [Instr.field,run_underlying hu,hf,asAgg]
   |_=>exact au.fail
  ·exact au.fail
 ·exact au.fail
def D3 (P:Program) (t:TypeId) (x i:Value):M I Value:=match P.underlying t,x,i with
 |some (.array n e),.agg cs,.int _ j=>match P.info? e with
  |some ie=>bif decide (0≤j) && decide (j<n) then FZ P e cs (j.toNat*ie.size) else fail
  |none=>fail
 |_,_,_=>fail
theorem D4 {t:TypeId} {x x' i i':Value} (h:VR E x x') (hi:VR E i i'):au P lo w0 E H (D3 P t x i:M I Value) (Instr.index t x' i') VR:=by
 unfold D3;split
 ·rename_i n e cs k j hu;cases hi;cases h with
  |agg h1 h2=>
   split
   ·rename_i ie iq;cases hb:(decide (0≤j) && decide (j<n)) with
    |false=>exact au.fail
    |true=>
     simp only [Bool.and_eq_true,decide_eq_true_eq] at hb;refine au.pG (c:=part e _ (j.toNat*ie.size)) (fun w=>?_) (xj ⟨h1,h2⟩);simp [Instr.index,asIntOf,run_underlying hu,hb,sizeOf,typeInfo,iq]
   ·exact au.fail
 ·exact au.fail
def oy (P:Program) (t:TypeId) (x:Value) (f:Nat):M I Value:=match P.underlying t,x with
 |some (.struct fs),.pointer (some ⟨k,o,none⟩)=>match fs[f]? with
  |some fd=>match P.info? fd.type with
   |some i=>bif Nat.beq i.size 0 then fail else pure (.pointer (some ⟨k,o+fd.offset,none⟩))
   |none=>fail
  |none=>fail
 |_,_=>fail
theorem ug {t:TypeId} {x x':Value} {f:Nat} (h:VR E x x'):au P lo w0 E H (oy P t x f:M I Value) (Instr.fieldAt t x' f) VR:=by
 unfold oy;split
 ·rename_i fs k o hu;cases h with
  |ptr hk=>
   split
   ·rename_i fd hf;split
    ·rename_i i hi;cases hb:Nat.beq i.size 0 with
     |true=>exact au.fail
     |false=>
      have hne:i.size≠0:=fun e=>by simp [e] at hb
      refine au.val ⟨_,fun w=>?_,.ptr hk⟩;simp only [Instr.fieldAt,Sem.run_bind,run_underlying hu,Result.andThen_ok,hf,Instr.sureAddr,Sem.run_pure,fieldPlace,sizeOf,typeInfo,run_program,hi,hne,if_false,dH]
    ·exact au.fail
   ·exact au.fail
 ·exact au.fail
def oz (P:Program) (t:TypeId) (x i:Value):M I Value:=match P.underlying t,x,i with
 |some (.slice e),.slice (some ⟨k,o,_⟩) n _,.int _ j=>match P.info? e with
  |some ie=>bif decide (0≤j) && decide (j<n) then pure (.pointer (some ⟨k,o+j.toNat*ie.size,none⟩)) else fail
  |none=>fail
 |some (.array n e),.pointer (some ⟨k,o,none⟩),.int _ j=>match P.info? e with
  |some ie=>bif decide (0≤j) && decide (j<n) then pure (.pointer (some ⟨k,o+j.toNat*ie.size,none⟩)) else fail
  |none=>fail
 |_,_,_=>fail
theorem uh {t:TypeId} {x x' i i':Value} (h:VR E x x') (hi:VR E i i'):au P lo w0 E H (oz P t x i:M I Value) (Instr.indexAt t x' i') VR:=by
 unfold oz;split
 ·rename_i e k o sp n c kk j hu;cases hi;split
  ·rename_i ie iq;cases hb:(decide (0≤j) && decide (j<n)) with
   |false=>exact au.fail
   |true=>
    simp only [Bool.and_eq_true,decide_eq_true_eq] at hb;cases h with
    |slice _ _ hk=>
     exact Uy
    |wide _ _ hk=>
     exact Uy
  ·exact au.fail
 ·rename_i n e k o kk j hu;cases hi;split
  ·rename_i ie iq;cases hb:(decide (0≤j) && decide (j<n)) with
   |false=>exact au.fail
   |true=>
    simp only [Bool.and_eq_true,decide_eq_true_eq] at hb;cases h with
    |ptr hk=>
     refine au.val ⟨_,fun w=>?_,.ptr hk⟩;simp only [Instr.indexAt,Sem.run_bind,run_underlying hu,Result.andThen_ok,asIntOf,Sem.run_pure,Instr.sureAddr,hb,and_self,if_true,sizeOf,typeInfo,run_program,iq,dH]
  ·exact au.fail
 ·exact au.fail
def fj (x:Option Value) (y d:Nat):Option Nat:=match x with
 |none=>some d
 |some (.int _ i)=>bif decide (0≤i) && decide (i≤y) then some i.toNat else none
 |some _=>none
def nh (len cap:Nat) (l h m:Option Value):Option (Nat × Nat × Nat):=match fj m cap cap with
 |some mm=>match fj h mm len with
  |some hh=>match fj l hh 0 with
   |some ll=>match m,h with
    |some _,none=>none
    |_,_=>some (ll,hh,mm)
   |none=>none
  |none=>none
 |none=>none
def XC (E:Env):Option Value→Option Value→Prop
 |none,none=>True
 |some v,some v'=>VR E v v'
 |_,_=>False
theorem fR {v v':Value} {y d n:Nat} (h:fj (some v) y d=some n) (hv:VR E v v') (y':Nat) (hy:y≤y') (code:BoundsCode) (w:World):(Instr.sliceBound v' y' code).run P w=.ok n w:=by
 cases hv<;>simp only [fj] at h<;>first|(cases h;done)|skip
 rename_i k i;cases hb:(decide (0≤i) && decide (i≤y)) with
 |false=>simp [hb] at h
 |true=>
  simp only [hb,cond_true,Option.some.injEq] at h;simp only [Bool.and_eq_true,decide_eq_true_eq] at hb;subst h;have h1:i≤y':=aa;simp [Instr.sliceBound,asIntOf,hb.1,h1]
theorem je {len cap cap':Nat} {l h m l' h' m':Option Value} {a b c:Nat} (hb:nh len cap l h m=some (a,b,c)) (hl:XC E l l') (hh:XC E h h') (hm:XC E m m') (hc:cap≤cap') (hx:m=none∨cap=cap') (is:Bool) (w:World):
  (Instr.sliceBounds is len cap' l' h' m').run P w=.ok (a,b,if m.isSome then c else cap') w:=by
 unfold nh at hb;cases h1:fj m cap cap with
 |none=>rw [h1] at hb;cases hb
 |some mm=>
  rw [h1] at hb;simp only at hb;cases h2:fj h mm len with
  |none=>rw [h2] at hb;cases hb
  |some JL=>
   rw [h2] at hb;simp only at hb;cases h3:fj l JL 0 with
   |none=>rw [h3] at hb;cases hb
   |some ll=>
    rw [h3] at hb;cases m with
    |some mv=>
     cases m' with
     |none=>exact hm.elim
     |some mv'=>
      cases h with
      |none=>cases hb
      |some hv=>
       cases h' with
       |none=>exact hh.elim
       |some hv'=>
        simp only [Option.some.injEq,Prod.mk.injEq] at hb;obtain⟨rfl,rfl,rfl⟩:=hb;obtain rfl:=hx.resolve_left ai;have r1:=fun code=>fR (P:=P) h1 hm cap (Nat.le_refl _) code w
        have r2:=fun code=>fR (P:=P) h2 hh mm (Nat.le_refl _) code w
        cases l with
        |none=>
         cases l' with
         |some _=>exact hl.elim
         |none=>
          simp only [fj,Option.some.injEq] at h3;subst h3;simp [Instr.sliceBounds,r1,r2]
        |some lv=>
         cases l' with
         |none=>exact hl.elim
         |some lv'=>
          have r3:=fun code=>fR (P:=P) h3 hl JL (Nat.le_refl _) code w
          simp [Instr.sliceBounds,r1,r2,r3]
    |none=>
     cases m' with
     |some _=>exact hm.elim
     |none=>
      simp only [fj,Option.some.injEq] at h1;subst h1;cases h with
      |none=>
       cases h' with
       |some _=>exact hh.elim
       |none=>
        simp only [fj,Option.some.injEq] at h2;subst h2;simp only [Option.some.injEq,Prod.mk.injEq] at hb;obtain⟨rfl,rfl,rfl⟩:=hb;cases l with
        |none=>
         cases l' with
         |some _=>exact hl.elim
         |none=>
          simp only [fj,Option.some.injEq] at h3;subst h3;simp [Instr.sliceBounds]
        |some lv=>
         cases l' with
         |none=>exact hl.elim
         |some lv'=>
          have r3:=fun code=>fR (P:=P) h3 hl len (Nat.le_refl _) code w
          simp [Instr.sliceBounds,r3]
      |some hv=>
       cases h' with
       |none=>exact hh.elim
       |some hv'=>
        simp only [Option.some.injEq,Prod.mk.injEq] at hb;obtain⟨rfl,rfl,rfl⟩:=hb;have r2:=fun code=>fR (P:=P) h2 hh cap' hc code w
        cases l with
        |none=>
         cases l' with
         |some _=>exact hl.elim
         |none=>
          simp only [fj,Option.some.injEq] at h3;subst h3;simp [Instr.sliceBounds,r2]
        |some lv=>
         cases l' with
         |none=>exact hl.elim
         |some lv'=>
          have r3:=fun code=>fR (P:=P) h3 hl JL (Nat.le_refl _) code w
          simp [Instr.sliceBounds,r2,r3]
def D5 (P:Program) (t:TypeId) (x:Value) (l h m:Option Value):M I Value:=match P.underlying t,x with
 |some (.slice e),.slice a n cap=>match nh n cap l h m,P.info? e with
  |some (ll,hh,mm),some ie=>match a with
   |none=>pure (.slice none (hh - ll) (mm - ll))
   |some ⟨k,o,none⟩=>pure (.slice (some ⟨k,bif Nat.beq mm ll then o else o+ll*ie.size,none⟩) (hh - ll) (mm - ll))
   |some ⟨k,o,some 0⟩=>match m with
    |none=>bif Nat.blt ll cap then pure (.slice (some ⟨k,o+ll*ie.size,some 0⟩) (hh - ll) (cap - ll)) else fail
    |some _=>fail
   |some _=>fail
  |_,_=>fail
 |some (.array n e),.pointer (some ⟨k,o,none⟩)=>match nh n n l h m,P.info? e with
  |some (ll,hh,mm),some ie=>pure (.slice (some ⟨k,bif Nat.beq mm ll then o else o+ll*ie.size,none⟩) (hh - ll) (mm - ll))
  |_,_=>fail
 |_,_=>fail
theorem rT {len cap:Nat} {l h m:Option Value} {a b c:Nat} (hb:nh len cap l h m=some (a,b,c)):m=none→c=cap:=by
 intro hm;subst hm;unfold nh at hb;simp only [fj] at hb;split at hb
 ·split at hb
  ·simp at hb;exact hb.2.2.symm
  ·cases hb
 ·cases hb
theorem F0 (a b:Nat) {α:Type} (x y:α):(bif Nat.beq a b then x else y)=if a=b then x else y:=by
 cases h:Nat.beq a b with
 |true=>have:=Nat.eq_of_beq_eq_true h;simp [this]
 |false=>rw [if_neg (fun e=>by subst e;simp at h)];rfl
theorem D6 {t:TypeId} {x x':Value} {l h m l' h' m':Option Value} (hx:VR E x x') (hl:XC E l l') (hh:XC E h h') (hm:XC E m m'):
  au P lo w0 E H (D5 P t x l h m:M I Value) (Instr.sliceAt t x' l' h' m') VR:=by
 unfold D5;split
 ·rename_i e a n cap hu;have D7:∀(y:Value) (w:World),(Instr.sliceAt t y l' h' m').run P w=(Instr.slice t y l' h' m').run P w:=fun y w=>by simp [Instr.sliceAt,run_underlying hu]
  split
  ·rename_i ll JL mm ie hb iq;have nc:(if m.isSome then mm else cap)=mm:=by
    cases m with
    |none=>simp [rT hb rfl]
    |some v=>rfl
   cases hx with
   |qI=>
    refine au.val ⟨.slice none (JL - ll) (mm - ll),fun w=>?_,.qI _ _⟩;have hr:=je (P:=P) hb hl hh hm (Nat.le_refl _) (.inr rfl) true w;rw [nc] at hr;rw [D7];simp [Instr.slice,run_underlying hu,hr,sizeOf,typeInfo,iq]
   |slice _ _ hk=>
    simp only [F0];refine au.val ⟨_,fun w=>?_,.slice _ _ hk⟩;have hr:=je (P:=P) hb hl hh hm (Nat.le_refl _) (.inr rfl) true w;rw [nc] at hr;rw [D7];by_cases e1:mm=ll
    ·simp [Instr.slice,run_underlying hu,hr,sizeOf,typeInfo,iq,e1]
    ·simp [Instr.slice,run_underlying hu,hr,sizeOf,typeInfo,iq,e1,dH]
   |wide _ _ hk=>
    cases m with
    |some _=>exact au.fail
    |none=>
     cases hbl:Nat.blt ll cap with
     |false=>simp only [hbl];exact au.fail
     |true=>
      simp only [hbl];have hlt:ll<cap:=by simp [Nat.blt] at hbl;omega
      rename_i k o b r;refine au.val ⟨.slice (some ⟨b,o+ll*ie.size,none⟩) (JL - ll) (cap - ll+r),fun w=>?_,.wide _ _ hk⟩;have hr:=je (P:=P) (cap':=cap+r) hb hl hh hm aa (.inl rfl) true w;simp only [Option.isSome_none,Bool.false_eq_true,if_false] at hr;rw [D7];have hne:¬(cap+r=ll):=aa;have heq:cap+r - ll=cap - ll+r:=aa;simp [Instr.slice,run_underlying hu,hr,sizeOf,typeInfo,iq,hne,dH,heq]
  ·exact au.fail
 ·rename_i n e k o hu;split
  ·rename_i ll JL mm ie hb iq;have nc:(if m.isSome then mm else n)=mm:=by
    cases m with
    |none=>simp [rT hb rfl]
    |some v=>rfl
   cases hx with
   |ptr hk=>
    simp only [F0];refine au.val ⟨_,fun w=>?_,.slice _ _ hk⟩;have hr:=je (P:=P) hb hl hh hm (Nat.le_refl _) (.inr rfl) false w;rw [nc] at hr;by_cases e1:mm=ll
    ·simp [Instr.sliceAt,Instr.sureAddr,run_underlying hu,hr,sizeOf,typeInfo,iq,e1]
    ·simp [Instr.sliceAt,Instr.sureAddr,run_underlying hu,hr,sizeOf,typeInfo,iq,e1,dH]
  ·exact au.fail
 ·exact au.fail
end Go.Am