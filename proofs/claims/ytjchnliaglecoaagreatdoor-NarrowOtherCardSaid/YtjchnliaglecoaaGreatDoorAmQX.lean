/- A part of the proof. Conditions: none. -/
import Derived.RangeFuncNested
import Derived.Test.YtjchnliaglecoaaGreatDoorZz
import Derived.Test.YtjchnliaglecoaaGreatDoorAmHX
import Derived.LoopNIn
import Derived.DefersIn
import Derived.OrdersIn
import Derived.Scope
import Derived.TacticsIn
import Derived.Recover
set_option linter.unusedVariables false
set_option linter.unusedSimpArgs false
set_option maxRecDepth 100000
set_option maxHeartbeats 8000000
namespace Go.Am
open Go Go.RowKit
variable {μ:Type} {I:ki μ} {P:Program} {lo:gp} {w0:Bs} {E:Env} {H:(Nat→Option Obj)→Prop}
structure Hk where
 X:FuncId→Bool
 Z:FuncId→List Value→Option Value
 L:FuncId→List Value→Option Value
structure Plain (P:Program) (h:Hk) (W0:World):Prop where
 x : ∀ f, h.X f = true → ∃ fn, P.funcs[f]? = some fn ∧ (fn.name == "runtime.NumGoroutine") = false ∧ fn.body.isNone = false
 z:∀f vs v,h.Z f vs=some v→vs.all (gL 3)=true∧gL 3 v=true∧∀w,(callFunc f vs.toArray).run P w=.ok (.value v) w
 l:∀f vs v,h.L f vs=some v→vs.all (gL 3)=true∧gL 3 v=true∧∀w,Below W0.heap.size W0 w→Calls P f vs.toArray w fun e w'=>e=.returned v∧Below w.heap.size w w'
theorem jk.gL {as cs:Array Value} (h:jk E as cs) (hg:as.toList.all (gL 3)=true):cs=as:=
 VR.RP (E:=E) h.1 hg fun a c j ha hc hga=>sK (h.2 a c j ha hc) 3 hga
def zT (P:Program) (lo:gp) (ev:Ev) (o:Oper) (b:Builtin) (args:Array Operand) (ts:Array TypeId):M I cA:=
 match b,args,ts with
 | .append,⟨[s,x]⟩,⟨[st,xt]⟩=>arg ev s>>=fun sv=>arg ev x>>=fun xv=>lI (Dt P lo st xt sv xv)
 | .copy,⟨[d,x]⟩,⟨[dt,_]⟩=>arg ev d>>=fun dv=>arg ev x>>=fun xv=>lI (Ws P lo dt dv xv)
 | .len,⟨[x]⟩,⟨[t]⟩=>arg ev x>>=fun xv=>lI (ajz P t xv)
 | .cap,⟨[x]⟩,⟨[t]⟩=>arg ev x>>=fun xv=>lI (ajA P t xv)
 | .recover,_,_=>pure .recover
 | .append,_,_| .copy,_,_| .len,_,_| .cap,_,_| .clear,_,_| .close,_,_| .delete,_,_| .panic,_,_| .print,_,_| .println,_,_=>fail
 |_,_,_=>qy P ev o
def iy (ps:List Tmp) (vs:List Value) (ts:Array Value):Array Value:=(ps.zip vs).foldl (fun t (i,v)=>t.setIfInBounds i v) ts
theorem Wt (ps:Array Tmp) (vs:Array Value) (ts:Array Value):(ps.zip vs).foldl (fun tmps (t,a)=>tmps.setIfInBounds t a) ts=iy ps.toList vs.toList ts:=by
 unfold iy;rw [←Array.foldl_toList,Array.toList_zip]
theorem rI:∀(ps:List Tmp) (vs cs:List Value) (ts ts':Array Value),jk E ts ts'→LR E vs cs→jk E (iy ps vs ts) (iy ps cs ts')
 |[],vs,cs,ts,ts',h,hv=>by simpa [iy] using h
 |p::ps,[],cs,ts,ts',h,hv=>by
  have:cs=[]:=List.eq_nil_of_length_eq_zero hv.1.symm;subst this;simpa [iy] using h
 |p::ps,v::vs,[],ts,ts',h,hv=>by have:=hv.1;simp at this
 |p::ps,v::vs,c::cs,ts,ts',h,hv=>by
  have h1:jk E (ts.setIfInBounds p v) (ts'.setIfInBounds p c):=by
   refine⟨by simpa using h.1,fun a b j ha hb=>?_⟩;rw [Array.getElem?_setIfInBounds] at ha hb;by_cases e:p=j
   ·subst e;rw [if_pos rfl] at ha hb;split at ha<;>split at hb<;>first|(cases ha;cases hb;exact hv.2 v c 0 rfl rfl)|(cases ha;done)|(cases hb;done)
   ·rw [if_neg e] at ha hb;exact h.2 a b j ha hb
  have h2:LR E vs cs:=⟨by have:=hv.1;simpa using this,fun a b j ha hb=>hv.2 a b (j+1) lQ (by simpa using hb)⟩;exact rI ps vs cs _ _ h1 h2
def Wu (k:Nat) (vs:List Value):M I cA:=rd k>>=fun o=>match o with
 | .loop r=>bif Nat.beq vs.length r.params.size then pure (.round k (iy r.params.toList vs r.tmps) r.assign r.body) else fail
 |_=>fail
def Wv (X:Hk) (ev:Ev) (fv:Operand) (args:Array Operand):M I cA:=match ev fv,evs ev args.toList with
 |some (.func (.func f) first cap),some vs=>bif X.X f then pure (.call f (first++vs.toArray++cap)) else match X.Z f (first++vs.toArray++cap).toList with
  |some v=>pure (.val v)
  |none=>fail
 |some (.func (.yield k) _ _),some vs=>Wu k vs
 |_,_=>fail
def yN (ev:Ev) (fv:Operand) (args:Array Operand):M I cA:=match ev fv,evs ev args.toList with
 |some (.func (.func f) first cap),some vs=>pure (.defer {target:=.fn (.func f) cap,args:=first++vs.toArray})
 |_,_=>fail
def isStr (P:Program) (t:TypeId):Bool:=match P.underlying t with
 |some .string=>true
 |_=>false
def Cx (x:Value):M I Value:=match x with
 | .pointer (some _)=>pure x
 | .iface _ _=>pure x
 | .func (.func _) _ _=>pure x
 |_=>fail
def zU (x:Value) (i:Nat):M I Value:=match x with
 | .tuple vs=>match vs[i]? with
  |some v=>pure v
  |none=>fail
 |_=>fail
def Ww (c a b:Value):M I Value:=match c with
 | .bool true=>pure a
 | .bool false=>pure b
 |_=>fail
def vI:IntKind→IntKind→Bool
 | .i8,.i8| .i16,.i16| .i32,.i32| .i64,.i64| .u8,.u8| .u16,.u16| .u32,.u32| .u64,.u64=>true
 |_,_=>false
theorem qO {j k:IntKind} (h:vI j k=true):j=k:=by cases j<;>cases k<;>first|rfl|(simp [vI] at h)
def ME (op:BinOp) (k:IntKind) (a b:Int):Option Value:=match op with
 | .add=>some (.int k (k.wrap (a+b)))
 | .sub=>some (.int k (k.wrap (a - b)))
 | .mul=>some (.int k (k.wrap (a*b)))
 | .eql=>some (.bool (a==b))
 | .neq=>some (.bool (a !=b))
 | .lss=>some (.bool (decide (a<b)))
 | .leq=>some (.bool (decide (a≤b)))
 | .gtr=>some (.bool (decide (a>b)))
 | .geq=>some (.bool (decide (a≥b)))
 |_=>none
def xQ (op:BinOp) (x y:Value):Option Value:=match x,y with
 | .int k a,.int k' b=>bif vI k k' then ME op k a b else none
 |_,_=>none
theorem wU {op:BinOp} {t:TypeId} {X Y:Operand} {x y v:Value} (h:xQ op x y=some v) (w:World):(do eqGuard op t X Y x y;binOp op t x y:Sem Value).run P w=.ok v w∧gL 0 v=true:=by
 unfold xQ at h;split at h
 ·rename_i k a k' b;cases hk:vI k k' with
  |false=>rw [hk] at h;cases h
  |true=>
   rw [hk] at h;have:=qO hk;subst this;simp only [cond_true] at h;unfold ME at h;split at h<;>cases h<;>exact⟨by simp [eqGuard,binOp,Op.intArith,Op.intCmp],rfl⟩
 ·cases h
def Wy (P:Program) (op:BinOp) (t:TypeId) (x y:Value):M I cA:=match op with
 | .eql=>match uH P t x y with
  |some b=>pure (.val (.bool b))
  |none=>fail
 | .neq=>match uH P t x y with
  |some b=>pure (.val (.bool (!b)))
  |none=>fail
 |_=>fail
def ajC (P:Program) (ev:Ev) (o:Oper) (op:BinOp) (t:TypeId) (x y:Value):M I cA:=match xQ op x y with
 |some v=>pure (.val v)
 |none=>bif gL 3 x && gL 3 y then qy P ev o else Wy P op t x y
def MF (P:Program) (s d:TypeId) (x:Value):Option Value:=match x with
 | .int _ n=>match P.underlying s,P.underlying d with
  |some _,some (.int k)=>some (.int k (k.wrap n))
  |_,_=>none
 |_=>none
def af9 (P:Program) (ev:Ev) (o:Oper) (s d:TypeId) (x:Value):M I cA:=bif gL 3 x then qy P ev o else lI (ajt P s d x)
def aga (P:Program) (ev:Ev) (o:Oper) (s d:TypeId) (x:Value):M I cA:=match MF P s d x with
 |some v=>pure (.val v)
 |none=>af9 P ev o s d x
def s1 (ev:Ev) (x:Operand) (f:Value→M I Value):M I cA:=arg ev x>>=fun v=>lI (f v)
def s2 (ev:Ev) (x y:Operand) (f:Value→Value→M I Value):M I cA:=arg ev x>>=fun v=>arg ev y>>=fun u=>lI (f v u)
def anX (ev:Ev) (c a b:Operand):M I cA:=arg ev c>>=fun cv=>arg ev a>>=fun av=>arg ev b>>=fun bv=>lI (Ww cv av bv)
def Wz (P:Program) (ev:Ev) (t:TypeId) (ps:Array (Nat × Operand)):M I cA:=match Oj ev ps.toList with
 |some vs=>lI (KR P t vs)
 |none=>fail
def wV (P:Program) (ev:Ev) (t:TypeId) (n:Nat) (ps:Array (Nat × Operand)):M I cA:=match Oj ev ps.toList with
 |some vs=>lI (qA P t n vs)
 |none=>fail
def ajD (P:Program) (lo:gp) (ev:Ev) (t:TypeId) (a x:Operand):M I cA:=arg ev a>>=fun v=>arg ev x>>=fun xv=>V9 (IQ P lo t v xv)
def atn (P:Program) (ev:Ev) (o:Oper) (op:BinOp) (t:TypeId) (x y:Operand):M I cA:=arg ev x>>=fun xv=>arg ev y>>=fun yv=>ajC P ev o op t xv yv
def anY (P:Program) (ev:Ev) (o:Oper) (s d:TypeId) (x:Operand):M I cA:=arg ev x>>=fun v=>aga P ev o s d v
def agb (ev:Ev) (f:FuncId) (first cap:Array Operand):M I cA:=match evs ev first.toList,evs ev cap.toList with
 |some fs,some cs=>pure (.val (.func (.func f) fs.toArray cs.toArray))
 |_,_=>fail
def WA (P:Program) (ev:Ev) (o:Oper) (t:TypeId) (x:Operand) (l h m:Option Operand):M I cA:=bif isStr P t then qy P ev o else arg ev x>>=fun v=>match evo ev l,evo ev h,evo ev m with
 |some lv,some hv,some mv=>lI (Jd P t v lv hv mv)
 |_,_,_=>fail
def WB (P:Program) (ev:Ev) (o:Oper) (t:TypeId) (x i:Operand):M I cA:=bif isStr P t then qy P ev o else s2 ev x i (Ja P t)
def acp (P:Program) (lo:gp) (ev:Ev) (t:TypeId) (m k x:Operand):M I cA:=arg ev m>>=fun mv=>arg ev k>>=fun kv=>arg ev x>>=fun xv=>V9 (Er P lo t mv kv xv)
def anZ (P:Program) (X:Hk) (lo:gp) (ev:Ev) (o:Oper) (c:Call):M I cA:=match c.callee with
 | .value f=>Wv X ev f c.args
 | .builtin b=>zT P lo ev o b c.args c.argTypes
 | .invoke _ _=>fail
def JB (ev:Ev) (c:Call):M I cA:=match c.callee with
 | .value f=>yN ev f c.args
 |_=>fail
def ato (v:Value):M I Value:=pure v
def jl (P:Program) (X:Hk) (lo:gp) (ev:Ev) (o:Oper):M I cA:=match o.op with
 | .move x| .assign x=>s1 ev x ato
 | .pick c a b=>anX ev c a b
 | .alloc t=>lI (IV P t)
 | .box t x=>s1 ev x (akW t)
 | .build t ps=>Wz P ev t ps
 | .buildSlice t n ps=>wV P ev t n ps
 | .load t a=>s1 ev a (EM P t)
 | .store t a x=>ajD P lo ev t a x
 | .nilCheck x=>s1 ev x Cx
 | .binOp op t x y _=>atn P ev o op t x y
 | .unOp _ _ _=>qy P ev o
 | .convert s d x=>anY P ev o s d x
 | .makeInterface t x=>s1 ev x (CX P t)
 | .makeFunc (.func f) first cap=>agb ev f first cap
 | .makeMap _ none=>lI G0
 | .makeSlice t l c=>s2 ev l c (sY P t)
 | .slice t x l h m=>WA P ev o t x l h m
 | .fieldAddr t x f=>s1 ev x (fun v=>rW P t v f)
 | .field t x f=>s1 ev x (fun v=>I8 P t v f)
 | .indexAddr t x i=>s2 ev x i (rX P t)
 | .index t x i=>WB P ev o t x i
 | .lookup t x i ok=>s2 ev x i (fun v iv=>Es P t v iv ok)
 | .mapUpdate t m k x| .insert t m k x=>acp P lo ev t m k x
 | .range t x=>s1 ev x (KT P t)
 | .next it pL=>s1 ev it (fun v=>WC lo v pL)
 | .typeAssert x _ t ok=>s1 ev x (fun v=>CY P v t ok)
 | .extract t i=>s1 ev t (fun v=>zU v i)
 | .call c=>anZ P X lo ev o c
 | .defer c=>JB ev c
 |_=>fail
theorem jk.append {as bs cs ds:Array Value} (h:jk E as cs) (k:jk E bs ds):jk E (as++bs) (cs++ds):=by
 have:=(h.lst.append k.lst).arr;have e:∀x y:Array Value,(x.toList++y.toList).toArray=x++y:=fun x y=>by apply Array.toList_inj.1;simp
 rwa [e,e] at this
theorem Oz {X:Hk} (hX:Plain P X w0.w) {ev:Ev} {ρ:Operand→Value} (hρ:∀x v,ev x=some v→VR E v (ρ x)) {fv:Operand} {args:Array Operand} {ts:Array TypeId} {ty:TypeId}:
  aI P lo w0 E H (Wv X ev fv args:M I cA) (do let d←resolve ρ {callee:=.value fv,args:=args,argTypes:=ts} ty;invoke d.target d.args) NR:=by
 unfold Wv;split
 ·rename_i f first cap vs hf Av
  cases hx:X.X f with
  |false=>
   simp only [cond_false];split
   ·rename_i v hz;obtain⟨z1,z2,z3⟩:=hX.z f _ v hz;have hr:=hρ _ _ hf;have ha:=qN hρ Av;generalize hq:ρ fv=q at hr;cases hr with
    | @func _ _ _ cs ds g1 g2 g3 g4=>
     have hA:=(jk.append (jk.append ⟨g1,g2⟩ ha) ⟨g3,g4⟩);have he:=hA.gL (by simpa using z1);refine aI.leaf (a:=cA.val v) (R:=NR) fun E1 g w hE _ _=>⟨.value v, ?_,dF E1 3 v z2⟩
     have:=z3 w;rw [show(first++vs.toArray++cap).toList.toArray=first++vs.toArray++cap by simp,←he] at this;simp [resolve,hq,Deferred.ofValue,invoke];simpa using this
   ·exact aI.fail
  |true=>
   simp only [cond_true];obtain⟨fn,h1,h2,h3⟩:=hX.x f hx;have hr:=hρ _ _ hf;have ha:=qN hρ Av;generalize hq:ρ fv=q at hr;cases hr with
   | @func _ _ _ cs ds g1 g2 g3 g4=>
    refine aI.leaf fun E1 g w hE _ _=>⟨.enter f (cs++args.map ρ++ds), ?_,rfl,((jk.append (jk.append ⟨g1,g2⟩ ha) ⟨g3,g4⟩)).mono hE⟩
    have h3':fn.body≠none:=fun e=>by rw [e] at h3;cases h3
    have h2' : ¬ fn.name = "runtime.NumGoroutine" := pM;simp [resolve, hq, Deferred.ofValue, invoke, callFunc, h1, h2', h3']
 ·rename_i k x1 x2 vs hf Av;have hr:=hρ _ _ hf;have ha:=qN hρ Av;generalize hq:ρ fv=q at hr;cases hr with
  | @yield _ b q hE0=>
   unfold Wu;refine aI.rd fun ob=>?_
   cases ob with
   |loop r=>
    simp only;cases hb:Nat.beq vs.length r.params.size with
    |false=>simp only [cond_false];exact aI.fail
    |true=>
     simp only [cond_true];have hlen:=Nat.eq_of_beq_eq_true hb;refine aI.leaf fun E1 g w hE hR ⟨_,hg⟩=>?_
     obtain⟨b',r',co,h1,h2,h3⟩:=hR.tie _ _ hg;have hk:=hE _ _ hE0;rw [hk] at h1;cases h1;cases h3 with
     | @loop _ y q' g1 g2 g3 g4 g5 g6 g7 g8=>
      refine⟨.round b y.fn (iy y.params.toList (args.map ρ).toList y.tmps) y.assign y.body, ?_,g4,g5,⟨_,hk⟩, ?_⟩
      ·have hsz:(args.map ρ).size=y.params.size:=by
        rw [g3,←hlen];have:=ha.1;simpa using this.symm
       have hy:=run_yield (P:=P) h2 hsz;rw [Wt] at hy;simp only [resolve,hq,Deferred.ofValue,invoke,Sem.run_bind,Sem.run_pure,Result.andThen_ok,Array.empty_append,Array.append_empty];exact hy
      ·rw [g3];exact rI _ _ _ _ _ ⟨g6,g7⟩ ((ha.mono hE).lst)
   |_=>exact aI.fail
 ·exact aI.fail
theorem KU {ev:Ev} {ρ:Operand→Value} (hρ:∀x v,ev x=some v→VR E v (ρ x)) {fv:Operand} {args:Array Operand} {ts:Array TypeId} {ty:TypeId}:
  aI P lo w0 E H (yN ev fv args:M I cA) (do pure (.defer (←resolve ρ {callee:=.value fv,args:=args,argTypes:=ts} ty)):Sem Next) NR:=by
 unfold yN;split
 ·rename_i f first cap vs hf Av
  have hr:=hρ _ _ hf;have ha:=qN hρ Av;generalize hq:ρ fv=q at hr;cases hr with
  | @func _ _ _ cs ds g1 g2 g3 g4=>
   refine aI.leaf fun E1 g w hE _ _=>⟨.defer {target:=.fn (.func f) ds,args:=cs++args.map ρ}, ?_,.inl ⟨f,_,_,rfl,rfl,jk.mono hE ⟨g3,g4⟩,(jk.append ⟨g1,g2⟩ ha).mono hE⟩⟩
   simp [resolve,hq,Deferred.ofValue]
 ·exact aI.fail
theorem Et {ev:Ev} {ρ:Operand→Value} (hρ:∀x v,ev x=some v→VR E v (ρ x)) {o:Oper} {b:Builtin} {args:Array Operand} {ts:Array TypeId} (ho:o.op=.call {callee:=.builtin b,args:=args,argTypes:=ts}):
  aI P lo w0 E Zi (zT P lo ev o b args ts:M I cA) (execOp ρ o) NR:=by
 have hs:∀cs b,o.op≠ .select cs b:=fun cs b e=>by rw [ho] at e;cases e
 have he:∀(c:Sem Next),(∀w,(builtin b ts o.type (args.map fun| .const _=>true|_=>false) (args.map ρ)).run P w=c.run P w)→∀w,(execOp ρ o).run P w=c.run P w:=fun c hc w=>by
  rw [←hc w];unfold execOp;rw [ho];simp [resolve,invoke];rfl
 unfold zT;split
 ·rename_i s x st xt;refine aI.arg hρ fun sv nR=>aI.arg hρ fun xv hxv=>aI.tC (he (do pure (.value (←Builtin.append_ #[st,xt] o.type #[ρ s,ρ x]))) fun w=>?_) (bJ (FR nR hxv))
  simp [builtin]
 ·rename_i s x st xt;refine aI.arg hρ fun sv nR=>aI.arg hρ fun xv hxv=>aI.tC (he (do pure (.value (←Builtin.copy_ #[st,xt] o.type #[ρ s,ρ x]))) fun w=>?_) (bJ (OA nR hxv))
  simp [builtin]
 ·rename_i x t;refine aI.arg hρ fun xv hxv=>aI.tC (he (do pure (.value (←Builtin.len_ #[t] o.type #[ρ x]))) fun w=>?_) (bJ (WD rfl hxv))
  simp [builtin]
 ·rename_i x t;refine aI.arg hρ fun xv hxv=>aI.tC (he (do pure (.value (←Builtin.cap_ #[t] o.type #[ρ x]))) fun w=>?_) (bJ (WE rfl hxv))
  simp [builtin]
 ·refine aI.tC (he (pure .recover) fun w=>rfl) (aI.pure fun E1 hE=>trivial)
 all_goals first|exact aI.fail|exact jB hρ hs
theorem Eu {x x':Value} {i:Nat} (hx:VR E x x'):aI P lo w0 E H (zU x i:M I Value) (Instr.extract x' i) VR:=by
 unfold zU;split
 ·rename_i vs;cases hx with
  |tuple h1 h2=>
   cases hv:vs[i]? with
   |none=>simp only [hv];exact aI.fail
   |some v=>
    simp only [hv];rename_i cs;have hi:i<cs.size:=by have:=(Array.getElem?_eq_some_iff.1 hv).1;omega
    exact aI.val ⟨cs[i],fun w=>by simp [Instr.extract,hi],h2 v _ i hv (by simp [hi])⟩
 ·exact aI.fail
theorem OB {c a b c' a' b':Value} (hc:VR E c c') (ha:VR E a a') (hb:VR E b b'):aI P lo w0 E H (Ww c a b:M I Value) (do pure (if←asBool c' then a' else b'):Sem Value) VR:=by
 unfold Ww;split
 ·cases hc;exact aI.val ⟨a',fun w=>by simp [asBool],ha⟩
 ·cases hc;exact aI.val ⟨b',fun w=>by simp [asBool],hb⟩
 ·exact aI.fail
theorem WG {ev:Ev} {ρ:Operand→Value} (hρ:∀x v,ev x=some v→VR E v (ρ x)) {o:Oper} {op:BinOp} {t yt:TypeId} {x y:Operand} (ho:o.op=.binOp op t x y yt) {xv yv:Value} (hx:VR E xv (ρ x)) (hy:VR E yv (ρ y)):
  aI P lo w0 E H (ajC P ev o op t xv yv:M I cA) (execOp ρ o) NR:=by
 have hs:∀cs b,o.op≠ .select cs b:=fun cs b e=>by rw [ho] at e;cases e
 have he:∀(v:Value) (w:World),(do eqGuard op t x y (ρ x) (ρ y);binOp op t (ρ x) (ρ y):Sem Value).run P w=.ok v w→(execOp ρ o).run P w=.ok (.value v) w:=fun v w h=>by
  unfold execOp;rw [ho];simp only [Sem.run_bind] at h ⊢;rw [h];rfl
 unfold ajC;split
 ·rename_i v hf;have h1:xv=ρ x∧yv=ρ y:=by
   unfold xQ at hf;split at hf
   ·constructor
    ·generalize ρ x=q at hx;cases hx;rfl
    ·generalize ρ y=q at hy;cases hy;rfl
   ·cases hf
  rw [h1.1,h1.2] at hf;exact aI.leaf (a:=cA.val v) (R:=NR) fun E1 g w hE _ _=>⟨_,he v w (wU (X:=x) (Y:=y) hf w).1,dF E1 0 v (wU (P:=P) (t:=t) (X:=x) (Y:=y) hf w).2⟩
 ·cases hg:(gL 3 xv && gL 3 yv) with
  |true=>exact jB hρ hs
  |false=>
   simp only [cond_false];unfold Wy;split
   ·split
    ·rename_i b hb;exact aI.leaf fun E1 g w hE _ _=>⟨_,he _ w (Cy hb hx hy x y w).1,.bool b⟩
    ·exact aI.fail
   ·split
    ·rename_i b hb;exact aI.leaf fun E1 g w hE _ _=>⟨_,he _ w (Cy hb hx hy x y w).2,.bool _⟩
    ·exact aI.fail
   ·exact aI.fail
theorem qB {v:Value} {c:Sem Next} (h:∃v',(∀w,c.run P w=.ok (.value v') w)∧VR E v v'):aI P lo w0 E H (lI (pure v):M I cA) c NR:=by
 obtain⟨v',h1,h2⟩:=h;exact aI.congr (m':=pure (.val v)) rfl (aI.leaf (a:=cA.val v) (R:=NR) fun E1 g w hE _ _=>⟨.value v',h1 w,h2.mono hE⟩)
theorem rR {X:Hk} (hX:Plain P X w0.w) {ev:Ev} {ρ:Operand→Value} (hρ:∀x v,ev x=some v→VR E v (ρ x)) (o:Oper):
  aI P lo w0 E Zi (jl P X lo ev o:M I cA) (execOp ρ o) NR:=by
 obtain⟨dst,op,type,pos,after,guard⟩:=o;cases op with
 |move x=>exact aI.arg hρ fun v hv=>qB ⟨_,fun w=>rfl,hv⟩
 |assign x=>exact aI.arg hρ fun v hv=>qB ⟨_,fun w=>rfl,hv⟩
 |pick c a b=>
  refine aI.arg hρ fun cv hc=>aI.arg hρ fun av ha=>aI.arg hρ fun bv hb=>aI.tC (fun w=>?_) (bJ (OB hc ha hb))
  simp [execOp]
 |alloc t=>exact bJ IW
 |box t x=>exact aI.arg hρ fun v hv=>bJ (Pj hv)
 |build t ps=>
  unfold jl Wz;simp only;split
  ·rename_i vs Av;refine bJ (KV ?_);have:=zQ hρ _ _ Av
   rwa [←Array.toList_map] at this
  ·exact aI.fail
 |buildSlice t n ps=>
  unfold jl wV;simp only;split
  ·rename_i vs Av;refine bJ (xD ?_);have:=zQ hρ _ _ Av
   rwa [←Array.toList_map] at this
  ·exact aI.fail
 |insert t m k x=>exact aI.arg hρ fun mv hm=>aI.arg hρ fun kv hk=>aI.arg hρ fun xv hx=>vH (wW hm hk hx)
 |load t a=>exact aI.arg hρ fun v hv=>bJ (MM hv)
 |store t a x=>exact aI.arg hρ fun v hv=>aI.arg hρ fun xv hx=>vH (IU hv hx)
 |nilCheck x=>
  refine aI.arg hρ fun v hv=>?_
  generalize hq:ρ x=q at hv;unfold Cx;split
  ·cases hv with
   |ptr h=>exact qB ⟨_,fun w=>by simp [execOp,hq],.ptr h⟩
  ·cases hv with
   |iface _ h=>exact qB ⟨_,fun w=>by simp [execOp,hq],.iface _ h⟩
  ·cases hv with
   |func h1 h2 h3 h4=>exact qB ⟨_,fun w=>by simp [execOp,hq],.func h1 h2 h3 h4⟩
  ·exact fun s a s' hr=>by obtain⟨a1,s1,h1,h2⟩:=aH hr;exact(aM h1).elim
 |binOp op t x y yt=>exact aI.arg hρ fun xv hx=>aI.arg hρ fun yv hy=>WG hρ rfl hx hy
 |unOp op t x=>exact jB hρ (fun cs b e=>by cases e)
 |convert s d x=>
  refine aI.arg hρ fun v hv=>?_
  unfold aga;split
  ·rename_i u hu;unfold MF at hu;split at hu
   ·rename_i k n;split at hu
    ·rename_i sd k' h1 h2;cases hu;generalize hq:ρ x=q at hv;cases hv;refine aI.leaf (a:=cA.val (.int k' (k'.wrap n))) (R:=NR) fun E1 g w hE _ _=>⟨.value (.int k' (k'.wrap n)), ?_,.int _ _⟩
     simp [execOp,hq,convert,run_underlying h1,run_underlying h2,Conv.intToInt]
    ·cases hu
   ·cases hu
  ·unfold af9;cases hg:gL 3 v with
   |true=>exact jB hρ (fun cs b e=>by cases e)
   |false=>exact bJ (Wa hv)
 |makeInterface t x=>exact aI.arg hρ fun v hv=>bJ (E5 hv)
 |makeFunc fn first cap=>
  cases fn with
  |func f=>
   unfold jl agb;simp only;split
   ·rename_i fs cs hf hc;have h1:=qN hρ hf;have h2:=qN hρ hc;exact aI.leaf fun E1 g w hE _ _=>⟨.value (.func (.func f) (first.map ρ) (cap.map ρ)),by simp [execOp,Instr.makeFunc],.func h1.1 (h1.mono hE).2 h2.1 (h2.mono hE).2⟩
   ·exact aI.fail
  |_=>exact aI.fail
 |makeMap t r=>
  cases r with
  |none=>exact bJ (Ew fun w=>rfl)
  |some r=>exact aI.fail
 |makeSlice t l c=>exact aI.arg hρ fun lv hl=>aI.arg hρ fun cv hc=>bJ (zV hl hc)
 |slice t x l h m=>
  unfold jl WA;simp only;cases hs:isStr P t with
  |true=>exact jB hρ (fun cs b e=>by cases e)
  |false=>
   refine aI.arg hρ fun v hv=>?_
   split
   ·rename_i lv hv' mv h1 h2 h3;exact bJ (Je hv (Eh hρ h1) (Eh hρ h2) (Eh hρ h3))
   ·exact aI.fail
 |fieldAddr t x f=>exact aI.arg hρ fun v hv=>bJ (yo hv)
 |field t x f=>exact aI.arg hρ fun v hv=>bJ (I9 hv)
 |indexAddr t x i=>exact aI.arg hρ fun v hv=>aI.arg hρ fun iv hi=>bJ (yq hv hi)
 |index t x i=>
  unfold jl WB;simp only;cases hs:isStr P t with
  |true=>exact jB hρ (fun cs b e=>by cases e)
  |false=>exact aI.arg hρ fun v hv=>aI.arg hρ fun iv hi=>bJ (Jb hv hi)
 |lookup t x i ok=>exact aI.arg hρ fun v hv=>aI.arg hρ fun iv hi=>bJ (G3 hv hi)
 |mapUpdate t m k x=>exact aI.arg hρ fun mv hm=>aI.arg hρ fun kv hk=>aI.arg hρ fun xv hx=>vH (wW hm hk hx)
 |range t x=>exact aI.arg hρ fun v hv=>bJ (KW hv)
 |next it pL=>exact aI.arg hρ fun v hv=>bJ (OC hv)
 |typeAssert x xT t ok=>exact aI.arg hρ fun v hv=>bJ (E6 hv)
 |extract t i=>exact aI.arg hρ fun v hv=>bJ (Eu hv)
 |call c=>
  obtain⟨callee,args,ts⟩:=c;cases callee with
  |value f=>exact Oz hX hρ
  |builtin b=>exact Et hρ rfl
  |invoke r m=>exact aI.fail
 |defer c=>
  obtain⟨callee,args,ts⟩:=c;cases callee with
  |value f=>exact KU hρ
  |builtin b=>exact aI.fail
  |invoke r m=>exact aI.fail
 |_=>exact aI.fail
end Go.Am

/- A part of the proof. Conditions: none. -/
set_option maxRecDepth 100000
set_option maxHeartbeats 8000000
namespace Go.Am
open Go Go.RowKit
noncomputable section
variable {μ:Type} {I:ki μ} {P:Program} {lo:gp} {w0:Bs} {E:Env} {H:(Nat→Option Obj)→Prop}
structure aO where
 n:Nat
 t:Trie Value
 defers:List Deferred
def aO.val (a:aO) (i:Nat):Value:=(a.t.get i).getD undef
def CN (lo:gp) (a:aO):Ev
 | .tmp i=>some (a.val i)
 | .const v=>bif gL 3 v then some v else none
 | .global g=>bif Nat.blt g lo.G then some (.pointer (some ⟨g,0,none⟩)) else none
 | .func f=>some (.func (.func f) #[] #[])
def kW (a:aO) (dst:Option Tmp) (v:Value):M I aO:=match dst with
 |none=>pure a
 |some d=>bif Nat.blt d a.n && Nat.blt d 4095 then pure ⟨a.n,a.t.set 12 d (some v),a.defers⟩ else fail
structure nY (E:Env) (a:aO) (ca:Act):Prop where
 size:ca.tmps.size=a.n
 val:∀i,VR E (a.val i) (ca.tmps.getD i undef)
 len:a.defers.length=ca.defers.length
 defers:∀(j:Nat) (d d':Deferred),a.defers[j]?=some d→ca.defers[j]?=some d'→DR E d d'
theorem DR.mono {E E':Env} (hE:∀k x,E k=some x→E' k=some x) {d d':Deferred} (h:DR E d d'):DR E' d d':=by
 rcases h with⟨f,c,c',h1,h2,h3,h4⟩|⟨k,b,q,h1,h2,h3⟩
 ·exact .inl ⟨f,c,c',h1,h2,h3.mono hE,h4.mono hE⟩
 ·exact .inr ⟨k,b,q,h1,h2,hE _ _ h3⟩
theorem nY.mono {E E':Env} (hE:∀k x,E k=some x→E' k=some x) {a:aO} {ca:Act} (h:nY E a ca):nY E' a ca:=
 ⟨h.size,fun i=>(h.val i).mono hE,h.len,fun j d d' h1 h2=>(h.defers j d d' h1 h2).mono hE⟩
theorem nY.ev {a:aO} {ca:Act} (h:nY E a ca) (hold:∀k,k<lo.G→E k=some (k,0)):∀x v,CN lo a x=some v→VR E v (ca.eval x):=by
 intro x v hv;cases x with
 |tmp i=>simp [CN] at hv;subst hv;exact h.val i
 |const u=>
  exact Rn
 |global g=>
  exact Ro
 |func f=>simp [CN] at hv;subst hv;exact .func rfl (fun _ _ j h=>by simp at h) rfl (fun _ _ j h=>by simp at h)
theorem nY.put {a a':aO} {ca:Act} {dst:Option Tmp} {v v':Value} {s s':St μ} (h:nY E a ca) (hv:VR E v v') (hr:(kW a dst v:M I aO).run s=some (a',s')):s'=s∧nY E a' (ca.put dst v'):=by
 unfold kW at hr;cases dst with
 |none=>obtain⟨rfl,rfl⟩:=pure_run hr;exact⟨rfl,h⟩
 |some d=>
  cases hb:(Nat.blt d a.n && Nat.blt d 4095) with
  |false=>simp only [hb] at hr;exact(aM hr).elim
  |true=>
   simp only [hb] at hr;obtain⟨rfl,rfl⟩:=pure_run hr;rw [blt_eq,blt_eq] at hb;simp only [Bool.and_eq_true,decide_eq_true_eq] at hb;refine⟨rfl,⟨by simp [Act.put,h.size],fun i=>?_,h.len,h.defers⟩⟩;have hval:aO.val ⟨a.n,a.t.set 12 d (some v),a.defers⟩ i=if i=d then v else a.val i:=by
    unfold aO.val;rw [Trie.xJ 12 a.t d i (some v) af];split<;>rfl
   rw [hval];by_cases e:i=d
   ·subst e;have hlt:i<ca.tmps.size:=by rw [h.size];exact hb.1
    simp [Act.put,hlt];exact hv
   ·have:=h.val i;have hne:¬(d=i):=fun h=>e h.symm
    simp [Act.put,e,Array.getElem?_setIfInBounds,hne] at this ⊢;exact this
inductive cG where
 |normal
 |exit (id:Nat)
 |ret
 |panic (v:Value)
def CP (E:Env):cG→Exit→Prop
 | .normal,.normal=>True
 | .exit i,.exit j=>i=j
 | .ret,.ret=>True
 | .panic v,.panic c=>∃v',c=[{v:=v',recovered:=false}]∧VR E v v'
 |_,_=>False
inductive mE where
 |ret (v:Value)
 |panic (v:Value)
def EnR (E:Env):mE→Ending→Prop
 | .ret v,.returned v'=>VR E v v'
 | .panic v,.panicked c=>∃v',c=[{v:=v',recovered:=false}]∧VR E v v'
 |_,_=>False
def xZ:List Value→Nat→Trie Value→Trie Value
 |[],_,t=>t
 |v::l,i,t=>xZ l (i+1) (t.set 12 i (some v))
theorem uO:∀(l:List Value) (i:Nat) (t:Trie Value) (j:Nat),i+l.length≤4094→(xZ l i t).get j=if i≤j∧j<i+l.length then l[j - i]? else t.get j
 |[],i,t,j,h=>by simp [xZ];intro h1 h2;omega
 |v::l,i,t,j,h=>by
  simp only [xZ];rw [uO l (i+1) _ j (by simp at h;omega),Trie.xJ 12 t i j (some v) (by simp at h;omega)];simp only [List.length_cons];by_cases e:j=i
  ·subst e;rw [if_neg af,if_pos rfl,if_pos af];simp
  ·rw [if_neg e];by_cases e2:i≤j∧j<i+(l.length+1)
   ·rw [if_pos e2,if_pos af,show j - i=(j - (i+1))+1 by omega];simp
   ·rw [if_neg e2,if_neg af]
structure Self (I:ki μ) where
 code:Option Nat→Code→aO→M I (cG × aO)
 call:FuncId→Array Value→M I mE
def nA (ops:Array Oper) (a:aO) (j:Nat):Option Bool:=match (ops[j]?).bind (·.dst) with
 |some d=>bif Nat.blt d a.n then match a.val d with
  | .bool b=>some b
  |_=>none
  else none
 |none=>none
def jC (ops:Array Oper) (a:aO) (o:Oper):Bool:=match o.guard with
 |none=>true
 |some (j,want)=>match nA ops a j with
  |some b=>bif want then b else !b
  |none=>false
theorem x4 {ops:Array Oper} {a:aO} {ca:Act} (h:nY E a ca) (o:Oper):Region.wanted o (yielded ops ca.tmps)=jC ops a o:=by
 unfold Region.wanted jC;cases hg:o.guard with
 |none=>rfl
 |some jw=>
  obtain⟨j,want⟩:=jw;simp only;have hy:yielded ops ca.tmps j=nA ops a j:=by
   unfold yielded nA;cases hd:(ops[j]?).bind (·.dst) with
   |none=>rfl
   |some d=>
    simp only [Option.bind_some,blt_eq,←h.size];have hv:=h.val d;exact ado
  exact Rp
def BM (a:aO) (o:Oper) (k:aO→M I (cG × aO)) (e:mE):M I (cG × aO):=match e with
 | .ret v=>kW a o.dst v>>=k
 | .panic v=>pure (.panic v,a)
def Rq (lo:gp) (k:Nat):M I Unit:=rd k>>=fun o=>match o with
 | .loop r=>match r.state with
  | .ready=>wr lo k (some (.loop {r with state:=.busy}))
  |_=>fail
 |_=>fail
def nB (lo:gp) (k:Nat) (jump:Option Code):M I mE:=rd k>>=fun o=>match o with
 | .loop r=>wr lo k (some (.loop {r with state:=if jump.isNone then .ready else .done,pending:=jump}))>>=fun _=>pure (.ret (.bool jump.isNone))
 |_=>fail
def agW (lo:gp) (k:Nat) (r:cG × aO):M I mE:=match r.1 with
 | .normal=>nB lo k none
 | .ret=>nB lo k (some .ret)
 | .exit id=>nB lo k (some (.exit id))
 | .panic _=>fail
def Rs (lo:gp) (self:Self I) (k:Nat) (body:Code) (r:cG × aO):M I mE:=match r.1 with
 | .normal=>Rq lo k>>=fun _=>self.code (some k) body r.2>>=agW lo k
 |_=>fail
def Dl (lo:gp) (self:Self I) (k:Nat) (ts:Array Value) (assign body:Code):M I mE:=
 bif Nat.blt ts.size 4000 then self.code (some k) assign ⟨ts.size,xZ ts.toList 0 .leaf,[]⟩>>=Rs lo self k body else fail
def Lv (ρ:Option Nat):Bool:=match ρ with
 |none=>true
 |some _=>false
def Dn (lo:gp) (ρ:Option Nat) (self:Self I) (a:aO) (o:Oper) (k:aO→M I (cG × aO)) (r:cA):M I (cG × aO):=match r with
 | .val v=>kW a o.dst v>>=k
 | .call f args=>self.call f args>>=BM a o k
 | .defer d=>bif Lv ρ then kW ⟨a.n,a.t,d::a.defers⟩ o.dst undef>>=k else fail
 | .round l ts b c=>Dl lo self l ts b c>>=BM a o k
 |_=>fail
def Rt (a:aO) (v:Value):M I (cG × aO):=match v with
 | .iface _ _=>pure (.panic v,a)
 |_=>fail
def Ru (lo:gp) (a:aO) (x:Operand):M I (cG × aO):=arg (CN lo a) x>>=Rt a
def opB (P:Program) (X:Hk) (lo:gp) (ρ:Option Nat) (self:Self I) (a:aO) (o:Oper) (k:aO→M I (cG × aO)):M I (cG × aO):=match o.op with
 | .panic x=>Ru lo a x
 |_=>jl P X lo (CN lo a) o>>=Dn lo ρ self a o k
def p5 (P:Program) (X:Hk) (lo:gp) (ρ:Option Nat) (self:Self I) (ops:Array Oper):List Oper→aO→M I (cG × aO)
 |[],a=>pure (.normal,a)
 |o::rest,a=>bif jC ops a o then opB P X lo ρ self a o (p5 P X lo ρ self ops rest) else kW a o.dst undef>>=p5 P X lo ρ self ops rest
def Jz (k:aO→M I (cG × aO)) (r:cG × aO):M I (cG × aO):=match r with
 |(.normal,a1)=>k a1
 |r=>pure r
def QW (self:Self I) (ρ:Option Nat) (c:Code):Nat→aO→M I (cG × aO)
 |0,_=>fail
 |m+1,a=>self.code ρ c a>>=Jz (QW self ρ c m)
def iD (P:Program) (lo:gp) (w0:Bs) (call:FuncId→Array Value→M I mE):Prop:=
 ∀f args s r s',(call f args).run s=some (r,s')→∀E g w gC,Rel P lo w0 E g w→fA I s s' g→gX s s' E→jk E args gC→
  Calls P f gC w fun e w'=>∃E',Env.Ext E E' s.next s'.next∧EnR E' r e∧Rel P lo w0 E' (merge I s' g) w'
def uP (ρ:Option Nat):Fence:={Fence.wide with round:=ρ}
def Rv (E:Env) (ρ ρ':Option Nat):Prop:=match ρ,ρ' with
 |none,none=>True
 |some k,some b=>∃q,E k=some (b,q)
 |_,_=>False
theorem Rv.mono {E E':Env} (hE:∀k x,E k=some x→E' k=some x) {ρ ρ':Option Nat} (h:Rv E ρ ρ'):Rv E' ρ ρ':=by
 cases ρ<;>cases ρ'<;>first|exact h|skip
 obtain⟨q,hq⟩:=h;exact⟨q,hE _ _ hq⟩
def oL (P:Program) (lo:gp) (w0:Bs) (ρ:Option Nat) (m:M I (cG × aO)) (a:aO) (C:Option Nat→(Exit→Act→World→Prop)→Act→World→Prop):Prop:=
 ∀s e a' s',m.run s=some ((e,a'),s')→∀E g w ca Q ρ',Rv E ρ ρ'→Rel P lo w0 E g w→fA I s s' g→gX s s' E→nY E a ca→
  (∀E' ce kA w',Env.Ext E E' s.next s'.next→CP E' e ce→nY E' a' kA→Rel P lo w0 E' (merge I s' g) w'→Q ce kA w')→C ρ' Q ca w
def iE (P:Program) (lo:gp) (w0:Bs) (code:Option Nat→Code→aO→M I (cG × aO)):Prop:=
 ∀ρ c a,oL P lo w0 ρ (code ρ c a) a (fun ρ' Q ca w=>c.wpIn (uP ρ') 0 P Q ca w)
theorem kM {ρ':Option Nat} (h:(uP ρ').depth.isSome=true):1≤0:=by simp [uP,Fence.wide] at h
theorem qa {ρ':Option Nat} {f:FuncId} {args:Array Value} {w:World} {R:Ending→World→Prop} (h:Calls P f args w R):CallsIn (uP ρ') (0 - 1) P f args w R:=callsIn_wide.2 h
theorem MT {f:FuncId} {args:Array Value} {w:World} {R:Ending→World→Prop} (h:CallsIn (uP none) 0 P f args w R):Calls P f args w R:=callsIn_wide.1 h
theorem chain {α:Type} {m:M I α} {a:α} {s s1 s':St μ} {g:Nat→Option Obj} {E E1:Env} (h1:m.run s=some (a,s1)) (h2:St.Le I s1 s') (hA:fA I s s' g) (hF:gX s s' E) (hx:Env.Ext E E1 s.next s1.next):
  fA I s1 s' (merge I s1 g)∧gX s1 s' E1∧(∀E',Env.Ext E1 E' s1.next s'.next→Env.Ext E E' s.next s'.next)∧merge I s' (merge I s1 g)=merge I s' g:=
 ⟨hA.second (m.le _ _ _ h1) h2,hF.second hx (m.le _ _ _ h1).next,fun E' h=>hx.trans h (m.le _ _ _ h1).next h2.next,lY g h2⟩
theorem JA {X:Hk} {ev:Ev} {o:Oper} {r:cA} {s s1:St μ} (h:(jl P X lo ev o:M I cA).run s=some (r,s1)) (hne:∀d,r≠ .defer d) (ρ':Option Nat) (ρv:Operand→Value):Oper.semAt ρ' ρv o=execOp ρv o:=by
 rw [Oper.semAt_eq];intro c hc0;unfold jl at h;rw [hc0] at h;simp only [JB] at h;split at h
 ·unfold yN at h;split at h
  ·obtain⟨h,_⟩:=pure_run h;exact hne _ h
  ·exact(aM h).elim
 ·exact(aM h).elim
theorem JC {E:Env} {ts cs:Array Value} (hsz:ts.size<4000) (h:jk E ts cs):nY E ⟨ts.size,xZ ts.toList 0 .leaf,[]⟩ {tmps:=cs,defers:=[]}:=by
 refine⟨h.1.symm,fun i=>?_,rfl,fun j d d' h=>by simp at h⟩;unfold aO.val;simp only;rw [uO ts.toList 0 .leaf i bt];simp only [Nat.zero_le,true_and,Nat.zero_add,Nat.sub_zero,Array.length_toList];by_cases hi:i<ts.size
 ·rw [if_pos hi];have hi':i<cs.size:=by rw [←h.1];exact hi
  have:=h.2 ts[i] cs[i] i (by simp [hi]) (by simp [hi']);simpa [hi,hi'] using this
 ·rw [if_neg hi];have hi':¬i<cs.size:=by rw [←h.1];exact hi
  have:cs.getD i undef=undef:=by simp [hi']
  rw [this];exact VR.undef E
theorem q7 {w:World} {b:Nat} {o co:Obj} (h:w.heap[b]?=some o):xW b co w (w.putObj b co):=
 ⟨rfl,rfl,rfl,World.putObj_size,World.putObj_heap_same (Array.getElem?_eq_some_iff.1 h).1,fun i hi=>World.putObj_heap_other hi⟩
theorem xK {E:Env} {g:Nat→Option Obj} {w:World} {k b q:Nat} {r:Loop} (hR:Rel P lo w0 E g w) (hg:g k=some (.loop r)) (hk:E k=some (b,q)):
  ∃y q',w.heap[b]?=some (.loop y)∧y.state=r.state∧y.pending=r.pending∧y.params=r.params∧y.assign=r.assign∧y.body=r.body∧jk E r.tmps y.tmps∧E r.defers=some (y.defers,q'):=by
 obtain⟨b',r',co,h1,h2,h3⟩:=hR.tie _ _ hg;rw [hk] at h1;cases h1;cases h3 with
 | @loop _ y q' g1 g2 g3 g4 g5 g6 g7 g8=>exact⟨y,q',h2,g1,g2,g3,g4,g5,⟨g6,g7⟩,g8⟩
theorem Dp {k b q:Nat} {r r':Loop} {s s1 s':St μ} {u:Unit} (h1:(rd k:M I Obj).run s=some (.loop r,s1)) (h2:(wr lo k (some (.loop r')):M I Unit).run s1=some (u,s'))
  {E:Env} {g:Nat→Option Obj} {w:World} (hR:Rel P lo w0 E g w) (hA:fA I s s' g) (hk:E k=some (b,q)) {y y':Loop} (hy:w.heap[b]?=some (.loop y)) (ho:∀q,OR P E q (.loop r') (.loop y')):
  s'.next=s.next∧Rel P lo w0 E (merge I s' g) (w.putObj b (.loop y')):=by
 obtain⟨e1,e2,e3,e4,e5⟩:=rS h1;obtain⟨w1,⟨o0,w2⟩,w3,w4,w5,w6⟩:=CQ h2;have l1:=(rd (I:=I) k).le _ _ _ h1;have l2:=(wr (I:=I) lo k (some (.loop r'))).le _ _ _ h2;have hm:merge I s1 g=g:=gP (hA.first l2) (fun k=>by rw [e4]) (fun k=>by rw [e3]);have lM:fA I s1 s' g:=by have:=hA.second l1 l2;rwa [hm] at this
 have hg:g k=some (.loop r):=Rw;refine⟨by rw [w3,e2], ?_⟩;rw [jH lM w5 w6];exact hR.write hg hk w1 (q7 hy) (ho q)
theorem FM {self:Self I} (nT:iE P lo w0 self.code) {k:Nat} {ts:Array Value} {assign body:Code} {s s':St μ} {r:mE} (hr:(Dl lo self k ts assign body).run s=some (r,s'))
  {E:Env} {g:Nat→Option Obj} {w:World} {b q:Nat} {f:FuncId} {cs:Array Value} {ρ':Option Nat} (hR:Rel P lo w0 E g w) (hA:fA I s s' g) (hF:gX s s' E) (hk:E k=some (b,q)) (vT:jk E ts cs):
  RoundIn (uP ρ') (0 - 1) P b f cs assign body w fun e w'=>∃E',Env.Ext E E' s.next s'.next∧EnR E' r e∧Rel P lo w0 E' (merge I s' g) w':=by
 unfold Dl at hr;cases hsz:Nat.blt ts.size 4000 with
 |false=>rw [hsz] at hr;exact(aM hr).elim
 |true=>
  rw [hsz,cond_true] at hr;rw [blt_eq,decide_eq_true_eq] at hsz;obtain⟨⟨e1,a1⟩,s1,h1,h2⟩:=aH hr;have hle:St.Le I s1 s':=M.le _ _ _ _ h2;refine roundIn_of_wpIn (F:=uP ρ') trivial ?_;refine nT (some k) assign _ s e1 a1 s1 h1 E g w _ _ (some b) ⟨q,hk⟩ hR (hA.first hle) (hF.first hle.next) (JC hsz vT) fun E1 ce qD w1 hx1 xj ha1 jX=>?_
  obtain⟨lM,iZ,pJ,j8⟩:=chain h1 hle hA hF hx1;unfold Rs at h2;cases e1 with
  |normal=>
   cases ce<;>simp only [CP] at xj<;>first|exact xj.elim|skip
   simp only at h2;obtain⟨u,s2,h3,h4⟩:=aH h2;have kB:St.Le I s2 s':=M.le _ _ _ _ h4;unfold Rq at h3;obtain⟨ob,s3,h5,h6⟩:=aH h3;have r7:=hx1.keep _ _ hk;cases ob with
   |loop x=>
    simp only at h6;cases hst:x.state with
    |ready=>
     rw [hst] at h6;simp only at h6;have hgx:merge I s1 g k=some (.loop x):=by
      obtain⟨e1',e2',e3',e4',e5'⟩:=rS h5;have l6:=M.le _ _ _ _ h6;rw [(lM.first kB) k (by rw [l6.T k e5',Bool.true_or]),e1']
     obtain⟨y,q',y0,y1,y2,y3,y4,y5,y6,y7⟩:=xK jX hgx r7;obtain⟨n1,qZ⟩:=Dp h5 h6 jX (lM.first kB) r7 y0 (y':={y with state:=.busy}) (fun q=>.loop rfl y2 y3 y4 y5 y6.1 y6.2 y7);refine⟨w1.putObj b (.loop {y with state:=.busy}),run_beginRound y0 (by rw [y1,hst]), ?_⟩;have hx2:Env.Ext E1 E1 s1.next s2.next:=⟨fun _ _ h=>h,fun _ h=>.inl h⟩;obtain⟨nS,hF2,Pn,tF⟩:=chain h3 kB lM iZ hx2;obtain⟨⟨e2,a2⟩,s4,h7,h8⟩:=aH h4;have agX:St.Le I s4 s':=M.le _ _ _ _ h8;refine nT (some k) body a1 s2 e2 a2 s4 h7 E1 _ _ qD _ (some b) ⟨q,r7⟩ qZ (nS.first agX) (hF2.first agX.next) ha1 fun E2 ce2 kL w2 hx3 Li ha2 hR3=>?_
     obtain⟨hA3,hF3,hX3,Yf⟩:=chain h7 agX nS hF2 hx3;have hk2:=hx3.keep _ _ r7;have fin:∀(jump:Option Code),(nB lo k jump:M I mE).run s4=some (r,s')→∃v w',(Instr.endRound b jump).run P w2=.ok v w'∧∃E',Env.Ext E E' s.next s'.next∧EnR E' r (.returned v)∧Rel P lo w0 E' (merge I s' g) w':=fun jump hj=>by
      unfold nB at hj;obtain⟨ob2,s5,j1,j2⟩:=aH hj;cases ob2 with
      |loop z=>
       simp only at j2;obtain⟨u2,s6,j3,j4⟩:=aH j2;obtain⟨j5,rfl⟩:=pure_run j4;subst j5;have MO:merge I s4 (merge I s2 (merge I s1 g)) k=some (.loop z):=by
        obtain⟨e1',e2',e3',e4',e5'⟩:=rS j1;have l6:=M.le _ _ _ _ j3;rw [hA3 k (by rw [l6.T k e5',Bool.true_or]),e1']
       obtain⟨y',q2,z0,z1,z2,z3,z4,z5,z6,z7⟩:=xK hR3 MO hk2;obtain⟨n2,hR4⟩:=Dp j1 j3 hR3 hA3 hk2 z0 (y':={y' with state:=if jump.isNone then .ready else .done,pending:=jump}) (fun q=>.loop rfl rfl z3 z4 z5 z6.1 z6.2 z7);refine⟨_,_,run_endRound jump z0,E2, ?_,.bool _, ?_⟩
       ·exact pJ E2 (Pn E2 (hX3 E2 ⟨fun _ _ h=>h,fun _ h=>.inl h⟩))
       ·rw [Yf,tF,j8] at hR4;exact hR4
      |_=>exact(aM j2).elim
     cases e2 with
     |normal=>
      cases ce2<;>simp only [CP] at Li<;>first|exact Li.elim|skip
      exact fin none h8
     |ret=>
      cases ce2<;>simp only [CP] at Li<;>first|exact Li.elim|skip
      exact fin (some .ret) h8
     |exit id=>
      cases ce2<;>simp only [CP] at Li<;>first|exact Li.elim|skip
      subst Li;exact fin (some (.exit id)) h8
     |panic v=>exact(aM h8).elim
    |_=>rw [hst] at h6;exact(aM h6).elim
   |_=>exact(aM h6).elim
  |_=>exact(aM h2).elim
theorem kP {X:Hk} (hX:Plain P X w0.w) {self:Self I} (nT:iE P lo w0 self.code) (hc:iD P lo w0 self.call) {ops:Array Oper} {ρ:Option Nat}:∀(l:List Oper) (a:aO),oL P lo w0 ρ (p5 P X lo ρ self ops l a) a (fun ρ' Q ca w=>wpListIn (uP ρ') 0 P ops Q l ca w)
 |[],a=>by
  intro s e a' s' hr E g w ca Q ρ' hρ hR hA hF ha hQ;obtain⟨h1,rfl⟩:=pure_run hr;cases h1;exact hQ E .normal ca w (.refl _ _) trivial ha Be
 |o::rest,a=>by
  intro s e a' s' hr E g w ca Q ρ' hρ hR hA hF ha hQ;have hw:=x4 (ops:=ops) ha o;unfold p5 at hr;unfold wpListIn;rw [hw];cases oH:jC ops a o with
  |false=>
   simp only [oH,cond_false] at hr;obtain⟨a1,s1,h1,h2⟩:=aH hr;obtain⟨rfl,ha1⟩:=ha.put (VR.undef E) h1;rw [if_neg ak];exact⟨fun _ _=>trivial,kP hX nT hc rest a1 _ e a' s' h2 E g w _ Q ρ' hρ hR hA hF ha1 hQ⟩
  |true=>
   simp only [oH,cond_true] at hr;rw [if_pos rfl];refine⟨fun _ _=>trivial, ?_⟩;have hev:=ha.ev (lo:=lo) hR.old;by_cases hp:∃x,o.op=.panic x
   ·obtain⟨x,hx⟩:=hp;unfold opB at hr;rw [hx] at hr;simp only at hr;unfold Ru arg at hr;cases hv:CN lo a x with
    |none=>rw [hv] at hr;obtain⟨_,_,h1,_⟩:=aH hr;exact(aM h1).elim
    |some v=>
     rw [hv] at hr;obtain⟨v1,s1,h1,h2⟩:=aH hr;obtain⟨rfl,rfl⟩:=pure_run h1;unfold Rt at h2;split at h2
     ·rename_i t u;obtain⟨h3,rfl⟩:=pure_run h2;cases h3;have hvr:=hev _ _ hv;generalize hq:ca.eval x=q at hvr;cases hvr with
      |iface _ hu=>
       rename_i u';have hrun:(execOp ca.eval o).run P w=.halt (.panic (.iface t u')) w:=by
        unfold execOp;rw [hx];simp [hq,Instr.panic]
       rw [Oper.semAt_eq _ _ _ (by rw [hx];intro c h;cases h),hrun];exact hQ E (.panic [{v:=.iface t u',recovered:=false}]) ca w (.refl _ _) ⟨_,rfl,.iface t hu⟩ ha Be
     ·exact(aM h2).elim
   ·have hnp:opB P X lo ρ self a o (p5 P X lo ρ self ops rest)=(jl P X lo (CN lo a) o>>=Dn lo ρ self a o (p5 P X lo ρ self ops rest)):=by
     unfold opB;split
     ·rename_i x hx;exact absurd ⟨x,hx⟩ hp
     ·rfl
    rw [hnp] at hr;obtain⟨r,s1,h1,h2⟩:=aH hr;have kB:St.Le I s1 s':=M.le _ _ _ _ h2;obtain⟨E1,nx,w1,hrun,hx1,uK,jX⟩:=rR (lo:=lo) (w0:=w0) (E:=E) hX hev o s r s1 h1 E g w (fun _ _ h=>h) hR (hA.first kB) (hF.first kB.next) trivial;obtain⟨lM,iZ,pJ,j8⟩:=chain h1 kB hA hF hx1;have ha1:=ha.mono hx1.keep;have agZ:(∀d,r≠ .defer d)→(o.semAt (uP ρ').round ca.eval).run P w=(execOp ca.eval o).run P w:=fun hne=>by
     rw [Oper.semAt_eq];intro c hc0;have:∃d,r=.defer d:=by
      have h9:=h1;unfold jl at h9;rw [hc0] at h9;simp only [JB] at h9;split at h9
      ·unfold yN at h9;split at h9
       ·obtain⟨h9,_⟩:=pure_run h9;exact⟨_,h9⟩
       ·exact(aM h9).elim
      ·exact(aM h9).elim
     obtain⟨d,hd⟩:=this;exact hne d hd
    cases r with
    |val v=>
     rw [agZ (fun d h=>by cases h),hrun];obtain⟨a1,s2,h3,h4⟩:=aH h2;have key:∀v',VR E1 v v'→wpListIn (uP ρ') 0 P ops Q rest (ca.put o.dst v') w1:=fun v' hv'=>by
      obtain⟨rfl,ha2⟩:=ha1.put hv' h3;refine kP hX nT hc rest a1 _ e a' s' h4 E1 _ w1 _ Q ρ' (hρ.mono hx1.keep) jX lM iZ ha2 fun E' ce kA w' Jo IA ha' xF=>hQ E' ce kA w' (pJ E' Jo) IA ha' (by rw [j8] at xF;exact xF)
     exact Pm
    |call f args=>
     rw [agZ (fun d h=>by cases h),hrun];cases nx<;>simp only [NR] at uK<;>first|exact uK.elim|skip
     rename_i f' cs;obtain⟨rfl,eE⟩:=uK;obtain⟨en,s2,h3,h4⟩:=aH h2;have mU:St.Le I s2 s':=M.le _ _ _ _ h4;have gZ:=hc f args s1 en s2 h3 E1 _ w1 cs jX (lM.first mU) (iZ.first mU.next) eE;rw [Oper.uponIn_enter];refine⟨kM,qa (gZ.mono fun e2 w2 ⟨E2,hx2,hen,qZ⟩=>?_)⟩;exact adp
    |defer d=>
     unfold Dn at h2;simp only at h2;cases ρ with
     |some l=>exact(aM h2).elim
     |none=>
     cases ρ' with
     |some l'=>exact hρ.elim
     |none=>
     simp only [Lv,cond_true] at h2;change Oper.uponIn (uP none) 0 P o ca _ Q ((execOp ca.eval o).run P w);rw [hrun];cases nx<;>simp only [NR] at uK<;>first|exact uK.elim|skip
     rename_i d';obtain⟨a1,s2,h3,h4⟩:=aH h2;have ha2:nY E1 ⟨a.n,a.t,d::a.defers⟩ {ca with defers:=d'::ca.defers}:=⟨ha1.size,ha1.val,by simp [ha1.len],fun j x y hx hy=>by
      rcases j with _|j
      ·simp at hx hy;subst hx;subst hy;exact uK
      ·simp at hx hy;exact ha1.defers j x y hx hy⟩
     obtain⟨rfl,ha3⟩:=ha2.put (VR.undef E1) h3;refine kP hX nT hc rest a1 _ e a' s' h4 E1 _ w1 _ Q none trivial jX lM iZ ha3 fun E' ce kA w' Jo IA ha' xF=>hQ E' ce kA w' (pJ E' Jo) IA ha' (by rw [j8] at xF;exact xF)
    |round l ts b c=>
     rw [agZ (fun d h=>by cases h),hrun];cases nx<;>simp only [NR] at uK<;>first|exact uK.elim|skip
     rename_i l' f' cs b' c';obtain⟨rfl,rfl,⟨q,hq⟩,eE⟩:=uK;obtain⟨en,s2,h3,h4⟩:=aH h2;have mU:St.Le I s2 s':=M.le _ _ _ _ h4;have gZ:=FM (ρ':=ρ') (f:=f') nT h3 jX (lM.first mU) (iZ.first mU.next) hq eE;rw [Oper.uponIn_round];refine⟨kM,(gZ.mono fun e2 w2 ⟨E2,hx2,hen,qZ⟩=>?_)⟩;exact adp
    |panic v=>exact(aM h2).elim
    |recover=>exact(aM h2).elim
end
end Go.Am

/- A part of the proof. Conditions: none. -/
set_option maxRecDepth 100000
set_option maxHeartbeats 8000000
namespace Go.Am
open Go Go.RowKit
noncomputable section
variable {μ:Type} {I:ki μ} {P:Program} {lo:gp} {w0:Bs} {E:Env}
def alone {α:Type} (m:M I α):M I (α × Nat × Nat):=⟨fun s=>match m.run ⟨s.next,s.mem,0,0⟩ with
  |none=>none
  |some (a,s')=>some ((a,s'.T,s'.W),⟨s'.next,s'.mem,s.T|||s'.T,s.W|||s'.W⟩),fun s a s' h=>by
 cases e:m.run ⟨s.next,s.mem,0,0⟩ with
 |none=>rw [e] at h;cases h
 |some x=>
  obtain⟨b,s1⟩:=x;rw [e] at h;cases h;have hl:=m.le _ _ _ e;refine⟨hl.next,fun k hk=>by simp [Nat.testBit_or,hk],fun k hk=>by simp [Nat.testBit_or,hk],fun k hk=>?_⟩;simp [Nat.testBit_or] at hk;exact hl.mem k hk.2⟩
theorem Nx {α:Type} {m:M I α} {s s':St μ} {a:α} {T W:Nat} (h:(alone m).run s=some ((a,T,W),s')):
  m.run ⟨s.next,s.mem,0,0⟩=some (a,⟨s'.next,s'.mem,T,W⟩)∧s'.T=s.T|||T∧s'.W=s.W|||W:=by
 simp only [alone] at h;cases e:m.run ⟨s.next,s.mem,0,0⟩ with
 |none=>rw [e] at h;cases h
 |some x=>
  obtain⟨b,s1⟩:=x;rw [e] at h;cases h;exact⟨rfl,rfl,rfl⟩
def evO (lo:gp) (ops:Array Oper) (o:Oper) (a:aO):Ev
 | .tmp t=>bif (o.looksAt ops).contains t then some (a.val t) else none
 |x=>CN lo a x
def alG (e:mE):M I Value:=match e with
 | .ret v=>pure v
 | .panic _=>fail
def aqB (lo:gp) (self:Self I) (r:cA):M I Value:=match r with
 | .val v=>pure v
 | .call f args=>self.call f args>>=alG
 | .round l ts b c=>Dl lo self l ts b c>>=alG
 |_=>fail
def JG (P:Program) (X:Hk) (lo:gp) (self:Self I) (ops:Array Oper) (o:Oper) (a:aO):M I Value:=
 bif jC ops a o then jl P X lo (evO lo ops o a) o>>=aqB lo self else pure undef
structure Mk where
 T:Nat
 W:Nat
def ahl (P:Program) (X:Hk) (lo:gp) (self:Self I) (ops:Array Oper):List Oper→aO→M I (aO × List Mk)
 |[],a=>pure (a,[])
 |o::rest,a=>alone (JG P X lo self ops o a)>>=fun r=>kW a o.dst r.1>>=fun a'=>ahl P X lo self ops rest a'>>=fun q=>pure (q.1,⟨r.2.1,r.2.2⟩::q.2)
def JH (ops:Array Oper) (o p:Oper) (x y:Mk):Bool:=o.apart ops p && Nat.beq (x.W &&& (y.T|||y.W)) 0 && Nat.beq (x.T &&& y.W) 0
def vk (acc:List Nat):List Edge→Nat
 |[]=>0
 |e::l=>bif Region.binds .any e then(vk acc l|||1<<<e.on)|||acc.getD e.on 0 else vk acc l
def jd:List Oper→List Nat→List Nat
 |[],acc=>acc
 |o::l,acc=>jd l (acc++[vk acc o.after.toList])
def Dr (ops:Array Oper) (bef:List Nat) (ms:List Mk):Bool:=
 (ms.zipIdx.all fun(y,j)=>ms.zipIdx.all fun(x,i)=> !Nat.blt i j||(bef.getD j 0).testBit i||match ops[i]?,ops[j]? with
  |some o,some p=>JH ops o p x y
  |_,_=>false) && ops.toList.zipIdx.all fun(o,i)=>o.after.all fun e=> !Region.binds .any e||Nat.blt e.on i
def LD (P:Program) (X:Hk) (lo:gp) (self:Self I) (ops:Array Oper) (a:aO):M I (cG × aO):=
 ahl P X lo self ops ops.toList a>>=fun q=>bif Dr ops (jd ops.toList []) q.2 then pure (.normal,q.1) else fail
def Ds (n i:Nat) (o:Oper):Bool:=(o.after.all fun e=> !Region.binds .any e||Nat.blt e.on i) && match o.guard with
 |some (j,_)=>Nat.blt j n
 |none=>true
def Ba (ops:Array Oper):Option Oper:=match ops.back? with
 |some p=>bif (ops.toList.zipIdx.all fun(o,i)=>Ds ops.pop.size i o) && ((List.range ops.pop.size).all fun i=>((jd ops.toList []).getD ops.pop.size 0).testBit i) then some p else none
 |none=>none
def alI (k:aO→M I (cG × aO)) (r:cG × aO):M I (cG × aO):=match r with
 |(.normal,a1)=>k a1
 |r=>pure r
def QX (P:Program) (X:Hk) (lo:gp) (ρ:Option Nat) (self:Self I) (ops:Array Oper) (a:aO):M I (cG × aO):=match Ba ops with
 |some p=>LD P X lo self ops.pop a>>=alI (p5 P X lo ρ self ops [p])
 |none=>LD P X lo self ops a
end
end Go.Am

/- A part of the proof. Conditions: none. -/
set_option maxRecDepth 100000
set_option maxHeartbeats 8000000
namespace Go.Am
open Go Go.RowKit
noncomputable section
variable {μ:Type} {I:ki μ} {P:Program} {lo:gp} {w0:Bs} {E:Env}
def alp (k:aO→M I (cG × aO)) (r:cG × aO):M I (cG × aO):=match r with
 |(.normal,a1)=>k a1
 |r=>pure r
def QT (id:Nat) (r:cG × aO):M I (cG × aO):=match r with
 |(.exit j,a1)=>bif Nat.beq j id then pure (.normal,a1) else pure (.exit j,a1)
 |r=>pure r
def QU (lo:gp) (self:Self I) (ρ:Option Nat) (c:Operand) (x y:Code) (a:aO):M I (cG × aO):=match CN lo a c with
 |some (.bool b)=>bif b then self.code ρ x a else self.code ρ y a
 |_=>fail
def tmpsOf (a:aO):Array Value:=((List.range a.n).map a.val).toArray
def Lr (a:aO) (ps:Array Tmp) (assign body:Code) (d:Nat):Obj:=.loop {state:=.ready,pending:=none,fn:=0,tmps:=tmpsOf a,params:=ps,assign,body,defers:=d}
def sw (ρ:Option Nat) (a:aO) (ps:Array Tmp) (assign body:Code):M I (Nat × List Deferred):=match ρ with
 |none=>new (.deferred (some []))>>=fun r=>new (Lr a ps assign body r)>>=fun l=>pure (l,[{target:=.collected r,args:=#[]}])
 |some k=>rd k>>=fun o=>match o with
  | .loop r0=>new (Lr a ps assign body r0.defers)>>=fun l=>pure (l,[])
  |_=>fail
def marked (a:aO) (m:List Deferred):aO:=⟨a.n,a.t,m++a.defers⟩
def ada (a:aO) (j:Option Code):M I (cG × aO):=match j with
 |none=>pure (.normal,a)
 |some .ret=>pure (.ret,a)
 |some (.exit id)=>pure (.exit id,a)
 |_=>fail
def Fy (lo:gp) (l:Nat):M I (Option Code):=rd l>>=fun o=>match o with
 | .loop r=>match r.state with
  | .busy=>fail
  |_=>wr lo l (some (.loop {r with state:=.exhausted}))>>=fun _=>pure r.pending
 |_=>fail
def yI (lo:gp) (l:Nat) (a:aO) (e:mE):M I (cG × aO):=match e with
 | .panic v=>pure (.panic v,a)
 | .ret _=>Fy lo l>>=ada a
def QV (X:Hk) (lo:gp) (self:Self I) (g:Operand) (a:aO) (lm:Nat × List Deferred):M I (cG × aO):=match CN lo a g with
 |some (.func (.func f) first cap)=>bif X.X f then self.call f (first++#[.func (.yield lm.1) #[] #[]]++cap)>>=yI lo lm.1 (marked a lm.2) else fail
 |_=>fail
def Dh (X:Hk) (lo:gp) (self:Self I) (ρ:Option Nat) (g:Operand) (ps:Array Tmp) (assign body:Code) (a:aO):M I (cG × aO):=
 sw ρ a ps assign body>>=QV X lo self g a
def ES (P:Program) (X:Hk) (lo:gp) (self:Self I) (ρ:Option Nat):Code→aO→M I (cG × aO)
 | .skip,a=>pure (.normal,a)
 | .label _,a=>pure (.normal,a)
 | .seq x y,a=>self.code ρ x a>>=alp (self.code ρ y)
 | .cond c x y,a=>QU lo self ρ c x y a
 | .block id b,a=>self.code ρ b a>>=QT id
 | .loop b,a=>QW self ρ b 1000000 a
 | .scope b,a=>self.code ρ b a
 | .exit id,a=>pure (.exit id,a)
 | .ret,a=>pure (.ret,a)
 | .region _ ops false,a=>p5 P X lo ρ self ops ops.toList a
 | .region _ ops true,a=>QX P X lo ρ self ops a
 | .rangeFunc g ps assign body,a=>Dh X lo self ρ g ps assign body a
 |_,_=>fail
def Yd (P:Program) (a:aO):List ResultVar→M I (List Value)
 |[]=>pure []
 | .tmp t::l=>Yd P a l>>=fun vs=>pure (a.val t::vs)
 | .cell x t::l=>EM P t (a.val x)>>=fun v=>Yd P a l>>=fun vs=>pure (v::vs)
def agn (P:Program) (fn:Func) (a:aO):M I Value:=Yd P a fn.results.toList>>=fun vs=>match vs with
 |[v]=>pure v
 |vs=>pure (.tuple vs.toArray)
abbrev XI (I:ki μ):=Option (FuncId→Array Value→Option (M I mE))
def st0 (n:Nat):St (Trie Obj):=⟨n,.leaf,0,0⟩
end
end Go.Am

/- A part of the proof. Conditions: none. -/
set_option maxRecDepth 100000
set_option maxHeartbeats 8000000
namespace Go.Am
open Go Go.RowKit
variable {μ:Type} {I:ki μ} {P:Program} {lo:gp} {w0:Bs}
inductive dD (ops:List Oper):Nat→Nat→Prop
 |RJ {j:Nat} {o:Oper} {e:Edge}:ops[j]?=some o→e∈o.after→Region.binds .any e=true→dD ops j e.on
 |step {j i:Nat} {o:Oper} {e:Edge}:ops[j]?=some o→e∈o.after→Region.binds .any e=true→dD ops e.on i→dD ops j i
theorem qd (ops:List Oper) {acc:List Nat} {j:Nat} {o:Oper} (ho:ops[j]?=some o) (ahn:∀j i,(acc.getD j 0).testBit i=true→dD ops j i):∀(l:List Edge),(∀e∈l,e∈o.after)→∀i,(vk acc l).testBit i=true→dD ops j i
 |[],_,i,h=>by simp [vk] at h
 |e::l,hl,i,h=>by
  unfold vk at h;cases hb:Region.binds .any e with
  |false=>rw [hb] at h;exact qd ops ho ahn l (fun x hx=>hl x (by simp [hx])) i h
  |true=>
   rw [hb,cond_true,Nat.testBit_or,dX] at h;simp only [Bool.or_eq_true,decide_eq_true_eq] at h;rcases h with(h|h)|h
   ·exact qd ops ho ahn l (fun x hx=>hl x (by simp [hx])) i h
   ·subst h;exact .RJ ho (hl e ak) hb
   ·exact .step ho (hl e ak) hb (ahn _ _ h)
theorem gT (ops:List Oper):∀(l:List Oper) (acc:List Nat),(∀k o,l[k]?=some o→ops[acc.length+k]?=some o)→(∀j i,(acc.getD j 0).testBit i=true→dD ops j i)→
  ∀j i,((jd l acc).getD j 0).testBit i=true→dD ops j i
 |[],acc,_,h=>h
 |o::l,acc,hl,h=>by
  refine gT ops l _ (fun k p hk=>?_) fun j i RL=>?_
  ·have:=hl (k+1) p (by simpa using hk);rw [List.length_append];rw [←this];congr 1;simp;omega
  ·rcases Nat.lt_trichotomy j acc.length with hj|hj|hj
   ·refine h j i ?_;simpa [List.getD,List.getElem?_append_left hj] using RL
   ·subst hj;have ho:=hl 0 o rfl;simp at ho;refine qd ops ho h o.after.toList (fun e he=>by simpa using he) i ?_;simpa [List.getD] using RL
   ·simp [List.getD,List.getElem?_append_right (Nat.le_of_lt hj)] at RL;rw [List.getElem?_eq_none bt] at RL;simp at RL
def eX (ops:List Oper) (S:Nat→Bool):Prop:=∀j o e,S j=true→ops[j]?=some o→e∈o.after→Region.binds .any e=true→S e.on=true
theorem dD.mem {ops:List Oper} {S:Nat→Bool} (hS:eX ops S) {j i:Nat} (h:dD ops j i) (hj:S j=true):S i=true:=by
 induction h with
 |RJ ho he hb=>exact hS _ _ _ hj ho he hb
 |step ho he hb _ ih=>exact ih (hS _ _ _ hj ho he hb)
def eW {α β:Type} (p:α→Bool) (f:α→β):β→List α→β
 |b,[]=>b
 |b,r::l=>eW p f (if p r then f r else b) l
theorem gi {α β:Type} {p q:α→Bool} {f:α→β}:∀(l:List α) (b:β),(∀r∈l,p r=q r)→eW p f b l=eW q f b l
 |[],_,_=>rfl
 |r::l,b,h=>by
  simp only [eW,h r ak];exact gi l _ fun x hx=>h x (by simp [hx])
theorem gU {α β:Type} {p:α→Bool} {f:α→β}:∀(l:List α) (b:β),(∀r∈l,p r=false)→eW p f b l=b
 |[],_,_=>rfl
 |r::l,b,h=>by
  simp only [eW,h r ak,Bool.false_eq_true,if_false];exact gU l _ fun x hx=>h x (by simp [hx])
theorem ud {α β:Type} {p:α→Bool} {f:α→β}:∀(l m:List α) (b:β),eW p f b (l++m)=eW p f (eW p f b l) m
 |[],_,_=>rfl
 |r::l,m,b=>by simp only [List.cons_append,eW];exact ud l m _
theorem FU {α β:Type} {p:α→Bool} {f:α→β} {l m:List α} {r:α} (b:β) (hr:p r=true) (hm:∀x∈m,p x=false):eW p f b (l++r::m)=f r:=by
 rw [ud];simp only [eW,hr,if_true];exact gU m _ hm
structure BR (μ:Type) where
 i:Nat
 o:Oper
 a:aO
 v:Value
 n0:Nat
 m0:μ
 n1:Nat
 m1:μ
 T:Nat
 W:Nat
def alK (a:aO) (dst:Option Tmp) (v:Value) (a1:aO):Prop:=(∀t,a1.val t=if dst=some t then v else a.val t)∧a1.n=a.n∧a1.defers=a.defers∧∀d,dst=some d→d<a.n
theorem Zm {a a':aO} {dst:Option Tmp} {v:Value} {s s':St μ} (hr:(kW a dst v:M I aO).run s=some (a',s')):s'=s∧alK a dst v a':=by
 unfold kW at hr;cases dst with
 |none=>obtain⟨rfl,rfl⟩:=pure_run hr;exact⟨rfl,fun t=>by simp,rfl,rfl,fun d h=>by cases h⟩
 |some d=>
  cases hb:(Nat.blt d a.n && Nat.blt d 4095) with
  |false=>simp only [hb] at hr;exact(aM hr).elim
  |true=>
   simp only [hb] at hr;obtain⟨rfl,rfl⟩:=pure_run hr;rw [blt_eq,blt_eq] at hb;simp only [Bool.and_eq_true,decide_eq_true_eq] at hb;refine⟨rfl,fun t=>?_,rfl,rfl,fun d' h=>by cases h;exact hb.1⟩;unfold aO.val;rw [Trie.xJ 12 a.t d t (some v) af];by_cases e:t=d
   ·subst e;simp
   ·have:¬(d=t):=fun h=>e h.symm
    simp [e,this]
inductive Tr (P:Program) (X:Hk) (lo:gp) (self:Self I) (ops:Array Oper):Nat→List Oper→aO→Nat→μ→List (BR μ)→aO→Nat→μ→Prop
 |nil {i:Nat} {a:aO} {n:Nat} {m:μ}:Tr P X lo self ops i [] a n m [] a n m
 |cons {i:Nat} {o:Oper} {rest:List Oper} {a a1 aN:aO} {n n1 nN:Nat} {m m1 mN:μ} {v:Value} {T W:Nat} {L:List (BR μ)}:(JG P X lo self ops o a).run ⟨n,m,0,0⟩=some (v,⟨n1,m1,T,W⟩)→alK a o.dst v a1→
   Tr P X lo self ops (i+1) rest a1 n1 m1 L aN nN mN→Tr P X lo self ops i (o::rest) a n m (⟨i,o,a,v,n,m,n1,m1,T,W⟩::L) aN nN mN
variable {X:Hk} {self:Self I} {ops:Array Oper}
theorem LF:∀(l:List Oper) (i:Nat) (a:aO) (s s':St μ) (q:aO × List Mk),(ahl P X lo self ops l a).run s=some (q,s')→
  ∃L,Tr P X lo self ops i l a s.next s.mem L q.1 s'.next s'.mem∧q.2=L.map (fun r=>⟨r.T,r.W⟩)∧(∀k,s'.T.testBit k=(s.T.testBit k||L.any (fun r=>r.T.testBit k)))∧∀k,s'.W.testBit k=(s.W.testBit k||L.any (fun r=>r.W.testBit k))
 |[],i,a,s,s',q,h=>by
  obtain⟨rfl,rfl⟩:=pure_run h;exact⟨[],.nil,rfl,by simp,by simp⟩
 |o::rest,i,a,s,s',q,h=>by
  obtain⟨⟨v,T,W⟩,s1,h1,h2⟩:=aH h;obtain⟨a1,s2,h3,h4⟩:=aH h2;obtain⟨q2,s3,h5,h6⟩:=aH h4;obtain⟨rfl,rfl⟩:=pure_run h6;obtain⟨g1,g2,g3⟩:=Nx h1;obtain⟨rfl,hp⟩:=Zm h3;obtain⟨L,hL,hm,hT,hW⟩:=LF rest (i+1) a1 _ _ q2 h5;refine⟨_,.cons g1 hp hL,by simp [hm],fun k=>?_,fun k=>?_⟩
  ·rw [hT,g2,Nat.testBit_or];simp [Bool.or_assoc]
  ·rw [hW,g3,Nat.testBit_or];simp [Bool.or_assoc]
theorem Tr.idx {i:Nat} {l:List Oper} {a aN:aO} {n nN:Nat} {m mN:μ} {L:List (BR μ)} (h:Tr P X lo self ops i l a n m L aN nN mN):L.length=l.length∧∀(k:Nat) (r:BR μ),L[k]?=some r→r.i=i+k∧l[k]?=some r.o:=by
 induction h with
 |nil=>exact⟨rfl,fun k r h=>by simp at h⟩
 |cons h1 h2 h3 ih=>
  refine⟨by simp [ih.1],fun k r hk=>?_⟩;rcases k with _|k
  ·simp at hk;subst hk;exact⟨rfl,rfl⟩
  ·simp at hk;obtain⟨h4,h5⟩:=ih.2 k r hk;exact⟨by omega,by simpa using h5⟩
theorem Tr.ge {i:Nat} {l:List Oper} {a aN:aO} {n nN:Nat} {m mN:μ} {L:List (BR μ)} (h:Tr P X lo self ops i l a n m L aN nN mN):∀r∈L,i≤r.i:=fun r hr=>by
 obtain⟨k,hk⟩:=List.mem_iff_getElem?.1 hr;have:=(h.idx.2 k r hk).1;omega
theorem Tr.one {i:Nat} {l:List Oper} {a aN:aO} {n nN:Nat} {m mN:μ} {L:List (BR μ)} (h:Tr P X lo self ops i l a n m L aN nN mN):∀r∈L,(JG P X lo self ops r.o r.a).run ⟨r.n0,r.m0,0,0⟩=some (r.v,⟨r.n1,r.m1,r.T,r.W⟩):=by
 induction h with
 |nil=>intro r hr;cases hr
 |cons h1 h2 h3 ih=>
  intro r hr;rcases List.mem_cons.1 hr with rfl|hr
  ·exact h1
  ·exact ih r hr
theorem Tr.frame {i:Nat} {l:List Oper} {a aN:aO} {n nN:Nat} {m mN:μ} {L:List (BR μ)} (h:Tr P X lo self ops i l a n m L aN nN mN):aN.n=a.n∧aN.defers=a.defers∧n≤nN∧∀r∈L,r.a.n=a.n∧n≤r.n0∧r.n0≤r.n1∧r.n1≤nN∧∀d,r.o.dst=some d→d<a.n:=by
 induction h with
 |nil=>exact⟨rfl,rfl,Nat.le_refl _,fun r hr=>by cases hr⟩
 |cons h1 h2 h3 ih=>
  have hl:=(JG P X lo self ops _ _).le _ _ _ h1;obtain⟨i1,i2,i3,i4⟩:=ih;have hn:=hl.next;simp only at hn;refine⟨by rw [i1,h2.2.1],by rw [i2,h2.2.2.1],by omega,fun r hr=>?_⟩;rcases List.mem_cons.1 hr with rfl|hr
  ·exact⟨rfl,Nat.le_refl _,hn,i3,h2.2.2.2⟩
  ·obtain⟨j1,j2,j3,j4,j5⟩:=i4 r hr;exact⟨by rw [j1,h2.2.1],by omega,j3,j4,fun d hd=>by have:=j5 d hd;rw [h2.2.1] at this;exact this⟩
theorem Tr.apart {i:Nat} {l:List Oper} {a aN:aO} {n nN:Nat} {m mN:μ} {L:List (BR μ)} (h:Tr P X lo self ops i l a n m L aN nN mN):∀r∈L,∀r'∈L,r.i<r'.i→r.n1≤r'.n0:=by
 induction h with
 |nil=>intro r hr;cases hr
 |cons h1 h2 h3 ih=>
  intro r hr r' BS hlt;have fR:=h3.ge;rcases List.mem_cons.1 hr with rfl|hr
  ·rcases List.mem_cons.1 BS with rfl|BS
   ·exact absurd hlt (Nat.lt_irrefl _)
   ·exact(h3.frame.2.2.2 r' BS).2.1
  ·rcases List.mem_cons.1 BS with rfl|BS
   ·have:=fR r hr;simp only at hlt;omega
   ·exact ih r hr r' BS hlt
theorem Tr.mem {i:Nat} {l:List Oper} {a aN:aO} {n nN:Nat} {m mN:μ} {L:List (BR μ)} (h:Tr P X lo self ops i l a n m L aN nN mN) (k:Nat):
  (∀r∈L,I.get r.m0 k=eW (fun x=>decide (x.i<r.i) && x.W.testBit k) (fun x=>I.get x.m1 k) (I.get m k) L)∧I.get mN k=eW (fun x=>x.W.testBit k) (fun x=>I.get x.m1 k) (I.get m k) L:=by
 induction h with
 |nil=>exact⟨fun r hr=>(List.not_mem_nil hr).elim,rfl⟩
 | @cons i o rest a a1 aN n n1 nN m m1 mN v T W L h1 h2 h3 ih=>
  have hl:=(JG P X lo self ops _ _).le _ _ _ h1;have fR:=h3.ge;have hbase:(if W.testBit k=true then I.get m1 k else I.get m k)=I.get m1 k:=by
   split
   ·rfl
   ·rename_i hw;exact(hl.mem k (by simpa using hw)).symm
  exact ady
theorem Tr.vals {i:Nat} {l:List Oper} {a aN:aO} {n nN:Nat} {m mN:μ} {L:List (BR μ)} (h:Tr P X lo self ops i l a n m L aN nN mN) (t:Nat):
  (∀r∈L,r.a.val t=eW (fun x=>decide (x.i<r.i) && decide (x.o.dst=some t)) (fun x=>x.v) (a.val t) L)∧aN.val t=eW (fun x=>decide (x.o.dst=some t)) (fun x=>x.v) (a.val t) L:=by
 induction h with
 |nil=>exact⟨fun r hr=>(List.not_mem_nil hr).elim,rfl⟩
 | @cons i o rest a a1 aN n n1 nN m m1 mN v T W L h1 h2 h3 ih=>
  have fR:=h3.ge;have hbase:(if decide (o.dst=some t)=true then v else a.val t)=a1.val t:=by
   rw [h2.1];simp
  exact ady
structure JJ (ops:Array Oper) (r r':BR μ):Prop where
 op:r.o.apart ops r'.o=true
 w:∀k,r.W.testBit k=true→r'.T.testBit k=false∧r'.W.testBit k=false
 t:∀k,r.T.testBit k=true→r'.W.testBit k=false
theorem BU {x y:Nat} (h:Nat.beq (x &&& y) 0=true) (k:Nat) (hx:x.testBit k=true):y.testBit k=false:=by
 have h0:=Nat.eq_of_beq_eq_true h;have:=congrArg (fun n=>n.testBit k) h0;simpa [Nat.testBit_and,hx] using this
theorem FV {r r':BR μ} (h:JH ops r.o r'.o ⟨r.T,r.W⟩ ⟨r'.T,r'.W⟩=true):JJ ops r r':=by
 unfold JH at h;simp only [Bool.and_eq_true] at h;obtain⟨⟨h1,h2⟩,h3⟩:=h;refine⟨h1,fun k hk=>?_,fun k hk=>BU h3 k hk⟩;have:=BU h2 k hk;rw [Nat.testBit_or,Bool.or_eq_false_iff] at this;exact this
theorem FW {L:List (BR μ)} (hL:∀(k:Nat) (r:BR μ),L[k]?=some r→r.i=k∧ops.toList[k]?=some r.o) (h:Dr ops (jd ops.toList []) (L.map fun r=>(⟨r.T,r.W⟩:Mk))=true):
  (∀r∈L,∀r'∈L,r.i<r'.i→dD ops.toList r'.i r.i∨JJ ops r r')∧∀i o e,ops.toList[i]?=some o→e∈o.after→Region.binds .any e=true→e.on<i:=by
 unfold Dr at h;simp only [Bool.and_eq_true] at h;obtain⟨h1,h2⟩:=h;constructor
 ·intro r hr r' BS hlt;obtain⟨i,hi⟩:=List.mem_iff_getElem?.1 hr;obtain⟨j,hj⟩:=List.mem_iff_getElem?.1 BS;obtain⟨e1,o1⟩:=hL i r hi;obtain⟨e2,o2⟩:=hL j r' hj;have Zn:((⟨r'.T,r'.W⟩:Mk),j)∈(L.map fun r=>(⟨r.T,r.W⟩:Mk)).zipIdx:=by
   rw [List.mem_zipIdx_iff_getElem?];simp [hj]
  have hm:((⟨r.T,r.W⟩:Mk),i)∈(L.map fun r=>(⟨r.T,r.W⟩:Mk)).zipIdx:=by
   rw [List.mem_zipIdx_iff_getElem?];simp [hi]
  have h3:=List.all_eq_true.1 h1 _ Zn;have h4:=List.all_eq_true.1 h3 _ hm;simp only [Bool.or_eq_true] at h4;rcases h4 with(h4|h4)|h4
  ·rw [blt_eq] at h4;simp at h4;omega
  ·rw [e1,e2];exact .inl (gT ops.toList ops.toList [] (fun k o hk=>by simpa using hk) (fun j i h=>by simp at h) j i h4)
  ·refine .inr (FV ?_);have q1:ops[i]?=some r.o:=by rw [←o1];simp
   have q2:ops[j]?=some r'.o:=by rw [←o2];simp
   simpa [q1,q2] using h4
 ·intro i o e ho he hb;have hm:(o,i)∈ops.toList.zipIdx:=FX;exact RM
structure Zo (P:Program) (lo:gp) (w0:Bs) (ops:Array Oper) (I:ki μ) (E0:Env) (g:Nat→Option Obj) (a:aO) (ca0:Act) (b0 b1:Nat) (L:List (BR μ)) (S:Nat→Bool) (E:Env) (ca:Act) (w:World):Prop where
 rel:Rel P lo w0 E (fun k=>eW (fun x=>S x.i && x.W.testBit k) (fun x=>I.get x.m1 k) (g k) L) w
 size:ca.tmps.size=a.n
 val:∀t,VR E (eW (fun x=>S x.i && decide (x.o.dst=some t)) (fun x=>x.v) (a.val t) L) (ca.tmps.getD t undef)
 defers:ca.defers=ca0.defers
 fresh:∀r∈L,S r.i=false→∀k,r.n0≤k→k<r.n1→E k=none
 ext:Env.Ext E0 E b0 b1
 closed:eX ops.toList S
theorem Dw {a:aO} {ca:Act} {o:Oper} {E:Env} (hs:ca.tmps.size=a.n) (h:∀t∈o.looksAt ops,VR E (a.val t) (ca.tmps.getD t undef)):Region.wanted o (yielded ops ca.tmps)=jC ops a o:=by
 unfold Region.wanted jC;cases hg:o.guard with
 |none=>rfl
 |some jw=>
  obtain⟨j,want⟩:=jw;simp only;have hy:yielded ops ca.tmps j=nA ops a j:=by
   unfold yielded nA;cases hd:(ops[j]?).bind (·.dst) with
   |none=>rfl
   |some d=>
    simp only [Option.bind_some,blt_eq,←hs];have hv:=h d (by unfold Oper.looksAt;rw [hg];simp [hd]);exact ado
  exact Rp
theorem Zp {a:aO} {ca:Act} {o:Oper} {E:Env} (hold:∀k,k<lo.G→E k=some (k,0)) (h:∀t∈o.looksAt ops,VR E (a.val t) (ca.tmps.getD t undef)):∀x v,evO lo ops o a x=some v→VR E v (ca.eval x):=by
 intro x v hv;cases x with
 |tmp t=>
  unfold evO at hv;cases hc:(o.looksAt ops).contains t with
  |true=>
   simp only [hc,cond_true,Option.some.injEq] at hv;subst hv;exact h t (by simpa using hc)
  |false=>simp only [hc,cond_false] at hv;cases hv
 |const u=>
  change CN lo a (.const u)=some v at hv;exact Rn
 |global g=>
  change CN lo a (.global g)=some v at hv;exact Ro
 |func f=>
  change CN lo a (.func f)=some v at hv;simp [CN] at hv;subst hv;exact .func rfl (fun _ _ j h=>by simp at h) rfl (fun _ _ j h=>by simp at h)
theorem aho {H:Plain P X w0.w} (nT:iE P lo w0 self.code) (hc:iD P lo w0 self.call) {ρ':Option Nat} {o:Oper} {a:aO} {s s':St μ} {v:Value} (hr:(JG P X lo self ops o a).run s=some (v,s')) {E:Env} {g:Nat→Option Obj} {w:World} {ca:Act} {Q:Exit→Act→World→Prop} {K:Act→World→Prop} {i:Nat}
  (ho:ops[i]?=some o) (hR:Rel P lo w0 E g w) (hA:fA I s s' g) (hF:gX s s' E) (hs:ca.tmps.size=a.n) (ah:∀t∈o.looksAt ops,VR E (a.val t) (ca.tmps.getD t undef))
  (hK:∀E' v' w',Env.Ext E E' s.next s'.next→VR E' v v'→Rel P lo w0 E' (merge I s' g) w'→K (ca.put o.dst v') w'):wpOpIn (uP ρ') 0 P ops Q i K ca w:=by
 have hw:=Dw (ops:=ops) hs ah;unfold wpOpIn;simp only [ho];rw [hw];unfold JG at hr;cases oH:jC ops a o with
 |false=>
  simp only [oH,cond_false] at hr;obtain⟨rfl,rfl⟩:=pure_run hr;rw [if_neg ak];exact⟨fun _ _=>trivial,hK E undef w (.refl _ _) (VR.undef E) Be⟩
 |true=>
  simp only [oH,cond_true] at hr;rw [if_pos rfl];refine⟨fun _ _=>trivial, ?_⟩;obtain⟨r,s1,h1,h2⟩:=aH hr;have kB:St.Le I s1 s':=M.le _ _ _ _ h2;have hev:=Zp (lo:=lo) (ops:=ops) hR.old ah;obtain⟨E1,nx,w1,hrun,hx1,uK,jX⟩:=rR (lo:=lo) (w0:=w0) (E:=E) H hev o s r s1 h1 E g w (fun _ _ h=>h) hR (hA.first kB) (hF.first kB.next) trivial;obtain⟨lM,iZ,pJ,j8⟩:=chain h1 kB hA hF hx1;cases r with
  |val u=>
   rw [JA h1 (fun d h=>by cases h),hrun];obtain⟨rfl,rfl⟩:=pure_run h2;cases nx<;>simp only [NR] at uK<;>first|exact uK.elim|skip
   ·exact hK E1 _ w1 hx1 uK jX
   ·subst uK;exact hK E1 undef w1 hx1 (VR.undef E1) jX
  |call f args=>
   rw [JA h1 (fun d h=>by cases h),hrun];cases nx<;>simp only [NR] at uK<;>first|exact uK.elim|skip
   rename_i f' cs;obtain⟨rfl,eE⟩:=uK;obtain⟨en,s2,h3,h4⟩:=aH h2;have mU:St.Le I s2 s':=M.le _ _ _ _ h4;have gZ:=hc f args s1 en s2 h3 E1 _ w1 cs jX (lM.first mU) (iZ.first mU.next) eE;rw [Oper.uponIn_enter];refine⟨kM,qa (gZ.mono fun e2 w2 ⟨E2,hx2,hen,qZ⟩=>?_)⟩;exact RN
  |round l ts b c=>
   rw [JA h1 (fun d h=>by cases h),hrun];cases nx<;>simp only [NR] at uK<;>first|exact uK.elim|skip
   rename_i l' f' cs b' c';obtain⟨rfl,rfl,⟨q,hq⟩,eE⟩:=uK;obtain⟨en,s2,h3,h4⟩:=aH h2;have mU:St.Le I s2 s':=M.le _ _ _ _ h4;have gZ:=FM (ρ':=ρ') (f:=f') nT h3 jX (lM.first mU) (iZ.first mU.next) hq eE;rw [Oper.uponIn_round];refine⟨kM,(gZ.mono fun e2 w2 ⟨E2,hx2,hen,qZ⟩=>?_)⟩;exact RN
  |defer d=>exact(aM h2).elim
  |panic u=>exact(aM h2).elim
  |recover=>exact(aM h2).elim
section
variable {E0:Env} {g:Nat→Option Obj} {a aN:aO} {ca0:Act} {n nN:Nat} {m mN:μ} {L:List (BR μ)}
theorem Nz {H:Plain P X w0.w} (nT:iE P lo w0 self.code) (hc:iD P lo w0 self.call) {ρ':Option Nat} (hT:Tr P X lo self ops 0 ops.toList a n m L aN nN mN) (hg:∀r∈L,∀k,(r.T.testBit k||r.W.testBit k)=true→g k=I.get m k)
  (rN:∀r∈L,∀r'∈L,r.i<r'.i→dD ops.toList r'.i r.i∨JJ ops r r') {S S':Nat→Bool} {E:Env} {ca:Act} {w:World} (hI:Zo P lo w0 ops I E0 g a ca0 n nN L S E ca w)
  {r:BR μ} (hr:r∈L) (hSr:S r.i=false) (JK:∀e∈r.o.after,Region.binds .any e=true→S e.on=true) (hS':∀j,S' j=(S j||decide (j=r.i)))
  {Q:Exit→Act→World→Prop} {K:Act→World→Prop} (hK:∀E' kA w',Zo P lo w0 ops I E0 g a ca0 n nN L S' E' kA w'→K kA w'):wpOpIn (uP ρ') 0 P ops Q r.i K ca w:=by
 obtain⟨hlen,ahp⟩:=hT.idx;have yS:∀(k:Nat) (x:BR μ),L[k]?=some x→x.i=k∧ops.toList[k]?=some x.o:=fun k x hx=>by
  have:=ahp k x hx;exact⟨by omega,this.2⟩
 have hat:∀x∈L,L[x.i]?=some x∧ops.toList[x.i]?=some x.o:=fun x hx=>by
  obtain⟨k,hk⟩:=List.mem_iff_getElem?.1 hx;obtain⟨h1,h2⟩:=yS k x hk;rw [h1];exact⟨hk,h2⟩
 have LG:∀x∈L,∀y∈L,x.i=y.i→x=y:=fun x hx y hy e=>by
  have h1:=(hat x hx).1;have h2:=(hat y hy).1;rw [e,h2] at h1;cases h1;rfl
 have hro:=(hat r hr).2;have sJ:∀i,dD ops.toList r.i i→S i=true:=fun i h=>by
  cases h with
  |RJ ho he hb=>rw [hro] at ho;cases ho;exact JK _ he hb
  |step ho he hb h2=>rw [hro] at ho;cases ho;exact h2.mem hI.closed (JK _ he hb)
 have mh:∀i,dD ops.toList i r.i→S i=false:=fun i h=>by
  cases hs:S i with
  |false=>rfl
  |true=>have:=h.mem hI.closed hs;rw [hSr] at this;cases this
 have aqH:∀k,(r.T.testBit k||r.W.testBit k)=true→∀x∈L,(S x.i && x.W.testBit k)=(decide (x.i<r.i) && x.W.testBit k):=fun k hk x hx=>by
  cases hxw:x.W.testBit k with
  |false=>simp
  |true=>
   simp only [Bool.and_true];rcases Nat.lt_trichotomy x.i r.i with hlt|heq|hgt
   ·rcases rN x hx r hr hlt with h|h
    ·rw [sJ _ h];simp [hlt]
    ·obtain⟨h1,h2⟩:=h.w k hxw;rw [h1,h2] at hk;cases hk
   ·have:=LG x hx r hr heq;subst this;rw [hSr];simp
   ·rcases rN r hr x hx hgt with h|h
    ·rw [mh _ h];have:¬x.i<r.i:=af;simp [this]
    ·exfalso;rw [Bool.or_eq_true] at hk;rcases hk with hk|hk
     ·rw [h.t k hk] at hxw;cases hxw
     ·rw [(h.w k hk).2] at hxw;cases hxw
 have alM:∀t,(t∈r.o.looksAt ops∨r.o.dst=some t)→∀x∈L,(S x.i && decide (x.o.dst=some t))=(decide (x.i<r.i) && decide (x.o.dst=some t)):=fun t ht x hx=>by
  by_cases Zq:x.o.dst=some t
  ·simp only [Zq,decide_true,Bool.and_true];rcases Nat.lt_trichotomy x.i r.i with hlt|heq|hgt
   ·rcases rN x hx r hr hlt with h|h
    ·rw [sJ _ h];simp [hlt]
    ·obtain⟨h1,h2,h3⟩:=Oper.apart_spec h.op;rcases ht with ht|ht
     ·exact absurd ht (h1 t Zq)
     ·exact absurd ht (h2 t Zq)
   ·have:=LG x hx r hr heq;subst this;rw [hSr];simp
   ·rcases rN r hr x hx hgt with h|h
    ·rw [mh _ h];have:¬x.i<r.i:=af;simp [this]
    ·obtain⟨h1,h2,h3⟩:=Oper.apart_spec h.op;rcases ht with ht|ht
     ·exact absurd ht (h3 t Zq)
     ·exact absurd Zq (h2 t ht)
  ·simp [Zq]
 have uM:=hT.one r hr;obtain⟨f1,f2,f3,f4⟩:=hT.frame;obtain⟨j1,j2,j3,j4,j5⟩:=f4 r hr;have aqI:ops[r.i]?=some r.o:=by rw [←hro];simp
 refine aho (H:=H) nT hc uM aqI hI.rel (fun k hk=>?_) (fun k h1 h2=>hI.fresh r hr hSr k h1 h2) (by rw [j1];exact hI.size) (fun t ht=>?_) fun E' v' w' hx hv xF=>hK E' _ w' ?_
 ·
  show eW _ _ _ _=_;rw [gi L (g k) (aqH k hk),(hT.mem k).1 r hr,hg r hr k hk]
 ·rw [(hT.vals t).1 r hr,←gi L (a.val t) (alM t (.inl ht))];exact hI.val t
 ·have kg:=hx.keep;obtain⟨L1,L2,EC⟩:=List.append_of_mem hr;have hL2:∀x∈L2,r.i<x.i:=fun x hx=>by
   obtain⟨k,hk⟩:=List.mem_iff_getElem?.1 hx;have h1:L[L1.length]?=some r:=by rw [EC];simp
   have h2:L[L1.length+1+k]?=some x:=by
    rw [EC,List.getElem?_append_right af,show L1.length+1+k - L1.length=k+1 by omega];simpa using hk
   have e1:=(yS _ _ h1).1;have e2:=(yS _ _ h2).1;omega
  have RO:∀x∈L2,x∈L:=fun x hx=>by rw [EC];simp [hx]
  refine⟨?_, ?_,fun t=>?_, ?_,fun x hxL hxS k h1 h2=>?_, ?_,fun j o e hj ho he hb=>?_⟩
  ·have hm:merge I ⟨r.n1,r.m1,r.T,r.W⟩ (fun k=>eW (fun x=>S x.i && x.W.testBit k) (fun x=>I.get x.m1 k) (g k) L)=fun k=>eW (fun x=>S' x.i && x.W.testBit k) (fun x=>I.get x.m1 k) (g k) L:=by
    funext k;unfold merge;simp only;cases hw:r.W.testBit k with
    |false=>
     rw [if_neg ak];refine gi L _ fun x hx=>?_
     rw [hS'];by_cases e:x.i=r.i
     ·have:=LG x hx r hr e;subst this;simp [hw]
     ·simp [e]
    |true=>
     rw [if_pos rfl,EC];refine(FU (p:=fun x=>S' x.i && x.W.testBit k) (f:=fun x=>I.get x.m1 k) (l:=L1) (m:=L2) (r:=r) (g k) (by simp only [hS',hw];simp) fun x hx=>?_).symm;show(S' x.i && x.W.testBit k)=false;cases hxw:x.W.testBit k with
     |false=>simp
     |true=>
      rw [Bool.and_true,hS'];have hlt:=hL2 x hx;rcases rN r hr x (RO x hx) hlt with h|h
      ·rw [mh _ h];have:¬x.i=r.i:=af;simp [this]
      ·rw [(h.w k hw).2] at hxw;cases hxw
   rw [hm] at xF;exact xF
  ·simp [Act.put];cases r.o.dst<;>simp [hI.size]
  ·by_cases hd:r.o.dst=some t
   ·have hval:eW (fun x=>S' x.i && decide (x.o.dst=some t)) (fun x=>x.v) (a.val t) L=r.v:=by
     rw [EC];refine FU _ (by rw [hS'];simp [hd]) fun x hx=>?_
     by_cases Zq:x.o.dst=some t
     ·have hlt:=hL2 x hx;have:=alM t (.inr hd) x (RO x hx);rw [Zq] at this;have hn:¬x.i<r.i:=af;have l7:¬x.i=r.i:=af;simp [hn] at this;rw [hS',this];simp [l7]
     ·simp [Zq]
    rw [hval,hd];have hlt:t<ca.tmps.size:=by rw [hI.size];exact j5 t hd
    simp [Act.put,hlt];exact hv
   ·have hval:eW (fun x=>S' x.i && decide (x.o.dst=some t)) (fun x=>x.v) (a.val t) L=eW (fun x=>S x.i && decide (x.o.dst=some t)) (fun x=>x.v) (a.val t) L:=by
     refine gi L _ fun x hx=>?_
     rw [hS'];by_cases e:x.i=r.i
     ·have:=LG x hx r hr e;subst this;simp [hd]
     ·simp [e]
    rw [hval];have:(ca.put r.o.dst v').tmps.getD t undef=ca.tmps.getD t undef:=by
     cases hdd:r.o.dst with
     |none=>rfl
     |some d=>
      have hne:¬d=t:=fun e=>hd (by rw [hdd,e])
      simp [Act.put,Array.getElem?_setIfInBounds,hne]
    rw [this];exact(hI.val t).mono kg
  ·rw [←hI.defers];cases r.o.dst<;>rfl
  ·rw [hS'] at hxS;simp only [Bool.or_eq_false_iff,decide_eq_false_iff_not] at hxS;have h0:=hI.fresh x hxL hxS.1 k h1 h2;cases hE:E' k with
   |none=>rfl
   |some y=>
    rcases hx.dom k (by simp [hE]) with h3|h3
    ·exact absurd h0 h3
    ·simp only at h3;rcases Nat.lt_or_gt_of_ne hxS.2 with hlt|hgt
     ·have:=hT.apart x hxL r hr hlt;omega
     ·have:=hT.apart r hr x hxL hgt;omega
  ·refine⟨fun k x hk=>kg k x (hI.ext.keep k x hk),fun k hk=>?_⟩;rcases hx.dom k hk with h1|h1
   ·exact hI.ext.dom k h1
   ·simp only at h1;exact .inr af
  ·rw [hS'] at hj ⊢;rw [Bool.or_eq_true,decide_eq_true_eq] at hj;rcases hj with hj|hj
   ·rw [hI.closed j o e hj ho he hb];rfl
   ·subst hj;rw [hro] at ho;cases ho;rw [JK e he hb];rfl
end
theorem yT (listed:Array Bool) (i:Nat) (h:listed.getD i true=false):(listed.setIfInBounds i true).toList.count false+1=listed.toList.count false:=by
 have hi:i<listed.size:=by
  rcases Nat.lt_or_ge i listed.size with h'|h'
  ·exact h'
  ·simp [Array.getElem?_eq_none h'] at h
 have hv:listed[i]=false:=by simpa [hi] using h
 rw [Array.toList_setIfInBounds];rw [List.count_set rZ];have yU:false∈listed.toList:=by
  rw [List.mem_iff_getElem];exact⟨i,by simpa using hi,by simpa using hv⟩
 have hp:=List.count_pos_iff.2 yU;have e1:(listed.toList[i]'rZ==false)=true:=by simpa using hv
 rw [if_pos e1,if_neg ak];omega
theorem LH {H:Plain P X w0.w} (nT:iE P lo w0 self.code) (hc:iD P lo w0 self.call) {ρ:Option Nat} (a:aO):oL P lo w0 ρ (LD P X lo self ops a) a (fun ρ' Q ca w=>wpAnyIn (uP ρ') 0 P .any ops Q ops.size (Array.replicate ops.size false) ca w):=by
 intro s e a' s' hr E0 g w ca Q ρ' hρ hR hA hF ha hQ;unfold LD at hr;obtain⟨q,s1,h1,h2⟩:=aH hr;cases eA:Dr ops (jd ops.toList []) q.2 with
 |false=>simp only [eA] at h2;exact(aM h2).elim
 |true=>
  simp only [eA,cond_true] at h2;obtain⟨h3,rfl⟩:=pure_run h2;cases h3;obtain⟨L,hT,hm,hTT,hWW⟩:=LF (P:=P) (X:=X) (lo:=lo) (self:=self) (ops:=ops) ops.toList 0 a s s' q h1;rw [hm] at eA;obtain⟨hlen,ahp⟩:=hT.idx;have yS:∀(k:Nat) (x:BR μ),L[k]?=some x→x.i=k∧ops.toList[k]?=some x.o:=fun k x hx=>by
   have:=ahp k x hx;exact⟨by omega,this.2⟩
  obtain⟨rN,xS⟩:=FW yS eA;have hg:∀r∈L,∀k,(r.T.testBit k||r.W.testBit k)=true→g k=I.get s.mem k:=fun r hr k hk=>by
   refine hA k ?_;rw [hTT,hWW];rw [Bool.or_eq_true] at hk;rcases hk with hk|hk
   ·have:L.any (fun r=>r.T.testBit k)=true:=List.any_eq_true.2 ⟨r,hr,hk⟩;simp [this]
   ·have:L.any (fun r=>r.W.testBit k)=true:=List.any_eq_true.2 ⟨r,hr,hk⟩;simp [this]
  obtain⟨f1,f2,f3,f4⟩:=hT.frame;have done:∀(S:Nat→Bool) E qD w1,(∀i,i<ops.size→S i=true)→Zo P lo w0 ops I E0 g a ca s.next s'.next L S E qD w1→Q .normal qD w1:=fun S E qD w1 hS hI=>by
   have hSx:∀x∈L,S x.i=true:=fun x hx=>by
    obtain⟨k,hk⟩:=List.mem_iff_getElem?.1 hx;have:=(yS k x hk).1;have hlt:k<L.length:=(List.getElem?_eq_some_iff.1 hk).1;rw [this];exact hS k (by rw [hlen] at hlt;simpa using hlt)
   refine hQ E .normal qD w1 hI.ext trivial ⟨by rw [f1];exact hI.size,fun t=>?_,by rw [f2,hI.defers];exact ha.len,by rw [f2,hI.defers];exact fun j d d' h1 h2=>(ha.defers j d d' h1 h2).mono hI.ext.keep⟩ ?_
   ·have:=hI.val t;rw [(hT.vals t).2,←gi (p:=fun x=>S x.i && decide (x.o.dst=some t)) L (a.val t) (fun x hx=>by rw [hSx x hx,Bool.true_and])];exact this
   ·have hme:merge I s' g=fun k=>eW (fun x=>S x.i && x.W.testBit k) (fun x=>I.get x.m1 k) (g k) L:=by
     funext k;rw [gi (q:=fun x=>x.W.testBit k) L (g k) (fun x hx=>by rw [hSx x hx,Bool.true_and])];unfold merge;rw [hWW];cases ahq:L.any (fun r=>r.W.testBit k) with
     |true=>
      rw [if_pos ak,(hT.mem k).2];obtain⟨r,hr1,hr2⟩:=List.any_eq_true.1 ahq;rw [hg r hr1 k (by simp [hr2])]
     |false=>
      have hnone:∀x∈L,x.W.testBit k=false:=fun x hx=>by
       cases hw:x.W.testBit k with
       |false=>rfl
       |true=>rw [List.any_eq_true.2 ⟨x,hx,hw⟩] at ahq;cases ahq
      rw [gU L _ hnone];split
      ·rename_i hw;rw [(hT.mem k).2,gU L _ hnone];exact(hA k (by rw [hTT,hWW];simp at hw;simp [hw])).symm
      ·rfl
    rw [hme];exact hI.rel
  have key:∀(fuel:Nat) (listed:Array Bool) E qD w1,listed.size=ops.size→listed.toList.count false≤fuel→Zo P lo w0 ops I E0 g a ca s.next s'.next L (fun i=>listed.getD i false) E qD w1→wpAnyIn (uP ρ') 0 P .any ops Q fuel listed qD w1:=by
   intro fuel
   induction fuel with
   |zero=>
    intro listed E qD w1 hsz JL hI;have hall:∀i,i<ops.size→listed.getD i false=true:=fun i hi=>by
     exact JM
    refine⟨?_,done _ E qD w1 hall hI⟩;apply List.eq_nil_iff_forall_not_mem.2;intro i hi;obtain⟨h4,o,ho,_⟩:=mem_ready.1 hi;have hlt:i<ops.size:=(Array.getElem?_eq_some_iff.1 ho).1;exact adC
   |succ fuel ih=>
    intro listed E qD w1 hsz JL hI;constructor
    ·intro hnone;refine done _ E qD w1 ?_ hI;intro i
     induction i using Nat.strongRecOn with
     |_ i ihi=>
      intro hi;have hi':i<listed.size:=af;cases hv:listed[i] with
      |true=>simp [hi',hv]
      |false=>
       exfalso;have:i∈Region.ready .any ops listed:=mem_ready.2 ⟨by simp [hi',hv],ops[i],by simp [hi],fun e he hb=>by
        have hlt:=xS i ops[i] e (by simp [hi]) he hb;exact ihi e.on hlt af⟩
       rw [hnone] at this;cases this
    ·intro i hi;obtain⟨h4,o,ho,hall⟩:=mem_ready.1 hi;have hlt:i<ops.size:=(Array.getElem?_eq_some_iff.1 ho).1;have hi':i<listed.size:=af;have hL:i<L.length:=by rw [hlen];simpa using hlt
     obtain⟨q1,q2⟩:=yS i L[i] (by simp [hL]);have hoo:L[i].o=o:=by
      have:ops.toList[i]?=some o:=by simpa using ho
      rw [this] at q2;cases q2;rfl
     have Zk:listed.getD i false=false:=by
      simp [hi'] at h4 ⊢;exact h4
     have hstep:=Nz (H:=H) (ρ':=ρ') (K:=wpAnyIn (uP ρ') 0 P .any ops Q fuel (listed.setIfInBounds i true)) (Q:=Q) (S':=fun j=>(listed.setIfInBounds i true).getD j false) nT hc hT hg rN hI (r:=L[i]) (List.getElem_mem hL) (by rw [q1];exact Zk) (by rw [hoo];exact hall)
      (fun j=>by
       rw [q1];by_cases e:j=i
       ·subst e;simp [hi']
       ·have hne:¬i=j:=fun h=>e h.symm
        simp [e,Array.getElem?_setIfInBounds,hne])
      (fun E' kA w' hI'=>ih _ E' kA w' (by simpa using hsz) LI hI')
     rw [q1] at hstep;exact hstep
  refine key ops.size _ E0 ca w ak ak ⟨?_,ha.size,fun t=>?_,rfl,fun r hr _ k h1 h2=>hF k (by have:=(f4 r hr).2.1;omega) (by have:=(f4 r hr).2.2.2.1;omega),⟨fun _ _ h=>h,fun _ h=>.inl h⟩,fun j o e hj=>?_⟩
  ·have:(fun k=>eW (fun x:BR μ=>(Array.replicate ops.size false).getD x.i false && x.W.testBit k) (fun x=>I.get x.m1 k) (g k) L)=g:=by
    funext k;exact gU L _ fun x hx=>by
     simp [Array.getElem?_replicate];intro h;split at h<;>simp at h
   rw [this];exact hR
  ·rw [gU L _ fun x hx=>by
     simp [Array.getElem?_replicate];intro h;split at h<;>simp at h]
   exact ha.val t
  ·exact rO
end Go.Am

/- A part of the proof. Conditions: none. -/
set_option maxRecDepth 100000
set_option maxHeartbeats 8000000
namespace Go.Am
open Go Go.RowKit
variable {F:Fence} {n:Nat} {μ:Type} {I:ki μ} {P:Program} {lo:gp} {w0:Bs} {X:Hk} {self:Self I} {ops:Array Oper}
theorem KZ {o:Oper} {a:Act} {w:World} {K:Act→World→Prop} {Q Q1:Exit→Act→World→Prop} (hp:∀c a w,Q1 (.panic c) a w→Q (.panic c) a w) (hl:LetsOut Q1→LetsOut Q) (h:o.wpIn F n P a w K Q1):o.wpIn F n P a w K Q:=by
 unfold Oper.wpIn at*;refine⟨h.1, ?_⟩;have h:=h.2;generalize (o.semAt F.round a.eval).run P w=r at*;cases r with
 |ok nx w'=>
  cases nx<;>simp only [Oper.uponIn] at h ⊢<;>
   first
    |exact h
    |exact⟨h.1,CallsIn.mono h.2 (fun e w'' he=>by cases e<;>first|exact he|exact hp _ _ _ he|exact hl he)⟩
    |exact⟨h.1,RoundIn.mono h.2 (fun e w'' he=>by cases e<;>first|exact he|exact hp _ _ _ he|exact hl he)⟩
 |halt x w'=>cases x<;>simp only [Oper.uponIn] at h ⊢<;>first|exact h|exact hp _ _ _ h
theorem G7 {Q:Exit→Act→World→Prop} {listed:Array Bool} {a:Act} {w:World} (h:Region.ready .any ops listed=[]) (hQ:Q .normal a w):∀fuel,wpAnyIn F n P .any ops Q fuel listed a w
 |0=>⟨h,hQ⟩
 |fuel+1=>⟨fun _=>hQ,fun i hi=>by rw [h] at hi;cases hi⟩
def an4 (F:Fence) (n:Nat) (P:Program) (ops:Array Oper) (p:Oper) (Q:Exit→Act→World→Prop):Exit→Act→World→Prop
 | .normal,a,w=>wpListIn F n P ops Q [p] a w
 |e,a,w=>Q e a w
theorem WK {pre:Array Oper} {p:Oper} {Q:Exit→Act→World→Prop} (EK:∀i o,pre[i]?=some o→(∀e∈o.after,Region.binds .any e=true→e.on<i)∧∀j b,o.guard=some (j,b)→j<pre.size)
  (hp:∀e∈p.after,Region.binds .any e=true→e.on<pre.size) (K8:∀i,i<pre.size→dD (pre.push p).toList pre.size i):
  ∀(fuel:Nat) (l:Array Bool) (a:Act) (w:World),l.size=pre.size→eX pre.toList (fun i=>l.getD i false)→wpAnyIn F n P .any pre (an4 F n P (pre.push p) p Q) fuel l a w→wpAnyIn F n P .any (pre.push p) Q (fuel+1) (l.push false) a w:=by
 intro fuel;have A7:∀(l:Array Bool) (d:Bool) i,i<l.size→(l.push false).getD i d=l.getD i d:=fun l d i hi=>by
  simp [Array.getD_eq_getD_getElem?,Array.getElem?_push,Nat.ne_of_lt hi]
 have akR:∀(l:Array Bool),(l.push false).getD l.size true=false:=fun l=>by
  simp [Array.getD_eq_getD_getElem?]
 have A8:∀i,i<pre.size→(pre.push p)[i]?=pre[i]?:=fun i hi=>by simp [Array.getElem?_push,Nat.ne_of_lt hi]
 have II:(pre.push p)[pre.size]?=some p:=ak;have rdy:∀(l:Array Bool),l.size=pre.size→∀i,i<pre.size→(i∈Region.ready .any (pre.push p) (l.push false)↔i∈Region.ready .any pre l):=fun l hl i hi=>by
  exact acu
 have XB:∀(l:Array Bool),l.size=pre.size→∀i,i∈Region.ready .any (pre.push p) (l.push false)→i<pre.size∨i=pre.size:=fun l hl i hi=>by
  exact Pa
 have full:∀(l:Array Bool),l.size=pre.size→eX pre.toList (fun i=>l.getD i false)→pre.size∈Region.ready .any (pre.push p) (l.push false)→∀i,i<pre.size→l.getD i false=true:=fun l hl hc hn i hi=>by
  exact acv
 have none:∀(l:Array Bool),(∀i,i<pre.size→l.getD i false=true)→l.size=pre.size→Region.ready .any pre l=[]:=fun l hl hsz=>by
  exact Pb
 have fin:∀(fuel:Nat) (l:Array Bool) (a:Act) (w:World),l.size=pre.size→(∀i,i<pre.size→l.getD i false=true)→wpListIn F n P (pre.push p) Q [p] a w→wpOpIn F n P (pre.push p) Q pre.size (wpAnyIn F n P .any (pre.push p) Q fuel ((l.push false).setIfInBounds pre.size true)) a w:=fun fuel l a w hl hall h=>by
  have hr:Region.ready .any (pre.push p) ((l.push false).setIfInBounds pre.size true)=[]:=by
   exact acw
  unfold wpListIn at h;unfold wpOpIn;simp only [II];split
  ·rename_i hw;rw [if_pos hw] at h;exact Oper.wpIn_mono (fun a w h=>G7 hr h fuel) h
  ·rename_i hw;rw [if_neg hw] at h;exact⟨h.1,G7 hr h.2 fuel⟩
 have nW:∀(l:Array Bool),l.size=pre.size→Region.ready .any (pre.push p) (l.push false)=[]→False:=fun l hl h=>by
  exact acy
 induction fuel with
 |zero=>
  exact Pc
 |succ fuel ih=>
  intro l a w hl hc h;refine⟨fun hn=>(nW l hl hn).elim,fun i hi=>?_⟩;rcases XB l hl i hi with hlt|rfl
  ·have xe:=(rdy l hl i hlt).1 hi;have h2:=h.2 i xe;obtain⟨q1,o,ho,Pd⟩:=mem_ready.1 xe;have ji:i<l.size:=af;have CI:(l.push false).setIfInBounds i true=(l.setIfInBounds i true).push false:=by
    exact acz
   have Ai:eX pre.toList (fun j=>(l.setIfInBounds i true).getD j false):=fun j o' e hj Im he hb=>by
    exact acA
   rw [CI];unfold wpOpIn at h2 ⊢;rw [A8 i hlt];simp only [ho] at h2 ⊢;have Pe:Region.wanted o (yielded (pre.push p) a.tmps)=Region.wanted o (yielded pre a.tmps):=by
    exact Pf
   rw [Pe];split
   ·rename_i hw;rw [if_pos hw] at h2;exact KZ (fun c a w h=>h) (fun h=>h) (Oper.wpIn_mono (fun a w h=>ih _ a w (by simpa using hl) Ai h) h2)
   ·rename_i hw;rw [if_neg hw] at h2;exact⟨h2.1,ih _ _ w (by simpa using hl) Ai h2.2⟩
  ·have hall:=full l hl hc hi;exact fin (fuel+1) l a w hl hall (h.1 (none l hall hl))
theorem xU {p:Oper} (h:Ba ops=some p):ops=ops.pop.push p∧(∀i o,ops.pop[i]?=some o→(∀e∈o.after,Region.binds .any e=true→e.on<i)∧∀j b,o.guard=some (j,b)→j<ops.pop.size)∧
  (∀e∈p.after,Region.binds .any e=true→e.on<ops.pop.size)∧∀i,i<ops.pop.size→dD ops.toList ops.pop.size i:=by
 unfold Ba at h;cases hb:ops.back? with
 |none=>rw [hb] at h;cases h
 |some p'=>
  rw [hb] at h;simp only at h
  ·cases hk:((ops.toList.zipIdx.all fun(o,i)=>Ds ops.pop.size i o) && ((List.range ops.pop.size).all fun i=>((jd ops.toList []).getD ops.pop.size 0).testBit i)) with
   |false=>rw [hk] at h;cases h
   |true=>
    rw [hk] at h;cases h;simp only [Bool.and_eq_true] at hk;have hne:ops≠#[]:=by rintro rfl;simp at hb
    have hsz:0<ops.size:=Array.size_pos_iff.2 hne;have heq:ops=ops.pop.push p:=by
     have XT:p=ops.back hsz:=by
      rw [Array.back?_eq_getElem?] at hb;have h1:ops.size - 1<ops.size:=af;rw [Array.getElem?_eq_getElem h1] at hb;cases hb;rfl
     rw [XT];apply Array.ext_getElem?;intro k;rw [Array.getElem?_push,Array.getElem?_pop];simp only [Array.size_pop];by_cases hk2:k=ops.size - 1
     ·subst hk2;rw [if_pos rfl,Array.getElem?_eq_getElem af];rfl
     ·rw [if_neg hk2];by_cases hk3:k<ops.size - 1
      ·rw [if_pos hk3]
      ·rw [if_neg hk3,Array.getElem?_eq_none af]
    have bO:∀i o,ops[i]?=some o→Ds ops.pop.size i o=true:=fun i o ho=>by
     have hm:(o,i)∈ops.toList.zipIdx:=by rw [List.mem_zipIdx_iff_getElem?];simpa using ho
     exact List.all_eq_true.1 hk.1 _ hm
    have agd:∀i o,ops[i]?=some o→(∀e∈o.after,Region.binds .any e=true→e.on<i)∧∀j b,o.guard=some (j,b)→j<ops.pop.size:=fun i o ho=>by
     have h1:=bO i o ho;unfold Ds at h1;simp only [Bool.and_eq_true,Array.all_eq_true_iff_forall_mem] at h1;refine⟨fun e he hbd=>?_,fun j b hg=>?_⟩
     ·have:=h1.1 e he;rw [hbd,blt_eq] at this;simpa using this
     ·have:=h1.2;rw [hg] at this;simp only [blt_eq,decide_eq_true_eq] at this;exact this
    refine⟨heq,fun i o ho=>agd i o ?_,(agd ops.pop.size p ?_).1,fun i hi=>?_⟩
    ·rw [heq,Array.getElem?_push];have:=(Array.getElem?_eq_some_iff.1 ho).1;rw [if_neg af];exact ho
    ·have h5:(ops.pop.push p)[ops.pop.size]?=some p:=Array.getElem?_push_size;rw [←heq] at h5;exact h5
    ·exact gT ops.toList ops.toList [] (fun k o hk=>by simpa using hk) (fun j i h=>by simp at h) _ i (List.all_eq_true.1 hk.2 i (List.mem_range.2 hi))
theorem WL {H:Plain P X w0.w} (nT:iE P lo w0 self.code) (hc:iD P lo w0 self.call) {ρ:Option Nat} (a:aO):oL P lo w0 ρ (QX P X lo ρ self ops a) a (fun ρ' Q ca w=>wpAnyIn (uP ρ') 0 P .any ops Q ops.size (Array.replicate ops.size false) ca w):=by
 intro s e a' s' hr E g w ca Q ρ' hρ hR hA hF ha hQ;unfold QX at hr;cases hl:Ba ops with
 |none=>rw [hl] at hr;exact LH (H:=H) nT hc a s e a' s' hr E g w ca Q ρ' hρ hR hA hF ha hQ
 |some p=>
  rw [hl] at hr;obtain⟨heq,h1,h2,h3⟩:=xU hl;obtain⟨r,s1,q1,q2⟩:=aH hr;have kB:St.Le I s1 s':=M.le _ _ _ _ q2;obtain⟨e1,a1⟩:=r;have hsz:ops.size=ops.pop.size+1:=by
   have:=congrArg Array.size heq;simpa using this
  have main:wpAnyIn (uP ρ') 0 P .any ops.pop (an4 (uP ρ') 0 P ops p Q) ops.pop.size (Array.replicate ops.pop.size false) ca w:=by
   refine LH (H:=H) nT hc a s e1 a1 s1 q1 E g w ca _ ρ' hρ hR (hA.first kB) (hF.first kB.next) ha fun E' ce kA w' hx he ha' xF=>?_
   obtain⟨lM,iZ,pJ,j8⟩:=chain q1 kB hA hF hx;cases e1 with
   |normal=>
    cases ce<;>first|exact he.elim|skip
    exact kP H nT hc [p] a1 s1 e a' s' q2 E' _ w' kA Q ρ' (hρ.mono hx.keep) xF lM iZ ha' fun E2 ce2 kL w2 hx2 Li ha2 qZ=>hQ E2 ce2 kL w2 (pJ E2 hx2) Li ha2 (by rw [j8] at qZ;exact qZ)
   |_=>
    obtain⟨h4,rfl⟩:=pure_run q2;cases h4;have:=hQ E' ce kA w' hx he ha' xF;cases ce<;>first|exact he.elim|exact this
  have key:=WK (F:=uP ρ') (n:=0) (P:=P) (Q:=Q) h1 h2 (fun i hi=>by rw [←heq];exact h3 i hi) ops.pop.size (Array.replicate ops.pop.size false) ca w ak (fun j o e hj=>by
   simp [Array.getElem?_replicate] at hj;split at hj<;>simp at hj) (by rw [←heq];exact main)
  exact Pg
end Go.Am

/- A part of the proof. Conditions: none. -/
set_option maxRecDepth 100000
set_option maxHeartbeats 8000000
namespace Go.Am
open Go Go.RowKit
variable {μ:Type} {I:ki μ} {P:Program} {lo:gp} {w0:Bs} {E:Env}
def ja {α:Type} (P:Program) (c:Sem α):Prop:=∀w v w',c.run P w=.ok v w'→w'=w
theorem ja.pure {α:Type} (a:α):ja P (Pure.pure a:Sem α):=fun w v w' h=>by cases h;rfl
theorem ja.halt {α:Type} (x:Halt):ja P (Sem.halt x:Sem α):=fun w v w' h=>by cases h
theorem ja.bind {α β:Type} {c:Sem α} {f:α→Sem β} (h:ja P c) (hf:∀a,ja P (f a)):ja P (c>>=f):=fun w v w' hr=>by
 rw [Sem.run_bind] at hr;cases hc:c.run P w with
 |halt x w1=>rw [hc] at hr;cases hr
 |ok a w1=>
  rw [hc] at hr;have:=h w a w1 hc;subst this;exact hf a _ _ _ hr
theorem ja.program:ja P program:=fun w v w' h=>by cases h;rfl
theorem ja.info (t:TypeId):ja P (typeInfo t):=by
 unfold typeInfo;refine ja.bind ja.program fun p=>?_
 split
 ·exact ja.pure _
 ·exact ja.halt _
theorem ja.under (t:TypeId):ja P (underlying t):=by
 unfold underlying;refine ja.bind ja.program fun p=>?_
 split
 ·exact ja.pure _
 ·exact ja.halt _
theorem ja.load (a:Addr) (m:Mode):ja P (load a m):=fun w v w' h=>by
 rw [run_load] at h;split at h
 ·cases h;rfl
 ·split at h
  ·cases h;rfl
  ·cases h
theorem ja.cells (a:Addr):∀(n i:Nat) (acc:Array Value),ja P (loadCellsFrom a i n acc)
 |0,i,acc=>ja.pure _
 |n+1,i,acc=>by
  unfold loadCellsFrom;exact ja.bind (ja.load _ _) fun v=>ja.cells a n _ _
theorem ja.var (t:TypeId) (a:Addr):ja P (loadVar t a):=by
 unfold loadVar isAgg;refine ja.bind (ja.bind (ja.under t) fun d=>?_) fun b=>?_
 ·split<;>exact ja.pure _
 ·split
  ·refine ja.bind (ja.bind (ja.info t) fun i=>ja.pure _) fun n=>ja.bind (ja.cells a n 0 _) fun cs=>ja.pure _
  ·exact ja.load _ _
theorem Ia {α β:Type} (f:α→Sem β) (xs:Array α):(xs.mapM f)=(do let l←xs.toList.mapM f;pure l.toArray):=by
 obtain⟨l⟩:=xs;rw [List.mapM_toArray,map_eq_pure_bind]
theorem Aa {a:aO} {ca:Act}:∀(l:List ResultVar) (E:Env) (H:(Nat→Option Obj)→Prop),(∀i,VR E (a.val i) (ca.tmps.getD i undef))→aI P lo w0 E H (Yd P a l:M I (List Value)) (l.mapM fun
  | .tmp t=>pure (ca.tmps.getD t undef)
  | .cell x t=>do loadVar t (←asAddr (ca.tmps.getD x undef))) LR
 |[],E,H,ha=>aI.pure fun E1 hE=>⟨rfl,fun a c j h=>by simp at h⟩
 | .tmp t::l,E,H,ha=>by
  rw [List.mapM_cons];refine aI.left (b:=ca.tmps.getD t undef) (fun w=>rfl) (aI.bind (Aa l E H ha) fun E1 vs cs hE Av=>aI.pure fun E2 FT=>?_);refine⟨by simp [Av.1],fun x y j hx hy=>?_⟩;rcases j with _|j
  ·simp only [List.getElem?_cons_zero,Option.some.injEq] at hx hy;subst hx;subst hy;exact(ha t).mono fun k x hk=>FT k x (hE k x hk)
  ·simp only [List.getElem?_cons_succ] at hx hy;exact(Av.2 x y j hx hy).mono FT
 | .cell x t::l,E,H,ha=>by
  rw [List.mapM_cons];have hv:=ha x;refine aI.bind (R:=VR) (c:=do loadVar t (←asAddr (ca.tmps.getD x undef))) ?_ fun E1 v v' hE hvv=>aI.bind (Aa l E1 Zi fun i=>(ha i).mono hE) fun E2 vs cs FT Av=>aI.pure fun E3 hE3=>?_
  ·unfold EM;generalize ca.tmps.getD x undef=q at hv;split
   ·rename_i k o C7;rw [C7] at hv;cases hv with
    |ptr hk=>exact aI.left (b:=_) (fun w=>rfl) (xV hk)
   ·exact aI.fail
  ·refine⟨by simp [Av.1],fun x y j hx hy=>?_⟩;rcases j with _|j
   ·simp only [List.getElem?_cons_zero,Option.some.injEq] at hx hy;subst hx;subst hy;exact hvv.mono fun k x hk=>hE3 k x (FT k x hk)
   ·simp only [List.getElem?_cons_succ] at hx hy;exact(Av.2 x y j hx hy).mono hE3
theorem ET (fn:Func) (tmps:Array Value):ja P (results fn tmps):=by
 unfold results;refine ja.bind ?_ fun vs=>ja.pure _
 rw [Ia];refine ja.bind ?_ fun vs=>ja.pure _
 induction fn.results.toList with
 |nil=>exact ja.pure _
 |cons r l ih=>
  rw [List.mapM_cons];refine ja.bind ?_ fun v=>ja.bind ih fun vs=>ja.pure _
  cases r with
  |tmp t=>exact ja.pure _
  |cell x t=>
   refine ja.bind ?_ fun a=>ja.var t a
   cases tmps.getD x undef<;>first|exact ja.halt _|skip
   rename_i p;cases p with
   |some p=>exact ja.pure _
   |none=>exact fun w v w' h=>by simp [asAddr,runtimePanic] at h
theorem Pq {fn:Func} {a:aO} {ca:Act} (ha:∀i,VR E (a.val i) (ca.tmps.getD i undef)):aI P lo w0 E Zi (agn P fn a:M I Value) (results fn ca.tmps) VR:=by
 unfold agn results;rw [Ia,bind_assoc];refine aI.bind (Aa _ E _ ha) fun E1 vs cs hE Av=>?_
 rw [pure_bind];obtain⟨h1,h2⟩:=Av;split
 ·rename_i v;obtain⟨c,rfl⟩:=List.length_eq_one_iff.1 h1.symm;refine aI.pure fun E2 FT=>?_
  have:VR E1 v c:=h2 v c 0 rfl rfl;simpa using this.mono FT
 ·rename_i vs hne;refine aI.pure fun E2 FT=>?_
  have aty:¬cs.toArray.size=1:=fun h=>by
   simp at h;obtain⟨v,hv⟩:=List.length_eq_one_iff.1 (h1.trans h);exact hne v hv
  rw [dif_neg aty];exact .tuple (by simpa using h1) fun x y j hx hy=>(h2 x y j x7 (by simpa using hy)).mono FT
theorem Rel.agq {g:Nat→Option Obj} {w w':World} (h:Rel P lo w0 E g w) (hb:Below w.heap.size w w'):Rel P lo w0 E g w':=
 ⟨h.below.trans (hb.mono h.below.size),fun k o hk=>by
  obtain⟨b,r,co,h1,h2,h3⟩:=h.tie k o hk;exact⟨b,r,co,h1,by rw [hb.block b (Array.getElem?_eq_some_iff.1 h2).1];exact h2,h3⟩,h.inj,h.own,h.old,h.kept⟩
theorem oL.same {ρ:Option Nat} {a:aO} {x:cG} {C:Option Nat→(Exit→Act→World→Prop)→Act→World→Prop} (h:∀E ca w Q ce ρ',CP E x ce→Q ce ca w→C ρ' Q ca w) (hx:∀E,∃ce,CP E x ce):oL P lo w0 ρ (pure (x,a):M I (cG × aO)) a C:=by
 intro s e a' s' hr E g w ca Q ρ' hρ hR hA hF ha hQ;obtain⟨h1,rfl⟩:=pure_run hr;cases h1;obtain⟨ce,hce⟩:=hx E;exact h E ca w Q ce ρ' hce (hQ E ce ca w (.refl _ _) hce ha Be)
theorem MH {self:Self I} (hc:iE P lo w0 self.code) (ρ:Option Nat) (c:Code):∀(n:Nat) (a:aO),oL P lo w0 ρ (QW self ρ c n a) a (fun ρ' Q ca w=>Code.roundsIn (uP ρ') 0 P c Q n ca w)
 |0,a=>fun s e a' s' hr=>(aM hr).elim
 |n+1,a=>by
  intro s e a' s' hr E g w ca Q ρ' hρ hR hA hF ha hQ;obtain⟨⟨x,a1⟩,s1,h1,h2⟩:=aH hr;have hle:St.Le I s1 s':=M.le _ _ _ _ h2;show c.wpIn (uP ρ') 0 P _ ca w;refine hc ρ c a s x a1 s1 h1 E g w ca _ ρ' hρ hR (hA.first hle) (hF.first hle.next) ha fun E1 ce qD w1 hx1 xj ha1 jX=>?_
  obtain⟨lM,iZ,pJ,j8⟩:=chain h1 hle hA hF hx1;cases x with
  |normal=>
   cases ce<;>simp only [CP] at xj<;>first|exact xj.elim|skip
   exact MH hc ρ c n a1 s1 e a' s' h2 E1 _ w1 qD Q ρ' (hρ.mono hx1.keep) jX lM iZ ha1 fun E' ce kA w' Jo IA ha' xF=>hQ E' ce kA w' (pJ E' Jo) IA ha' (by rw [j8] at xF;exact xF)
  |exit id=>
   exact zG
  |ret=>
   exact D6
  |panic v=>
   exact zG
theorem Ib {b:Frame} {a:Act} {k:List Item} {cs:List Frame} {w:World} {c:Code}:step P (lone (b.atR a (.code (.scope c)::k)) cs w)=.next (lone (b.atR a (.code c::.inScope c::k)) cs w):=
 step_lone_go (by simp [stepG,stepG.exec,Frame.atR])
theorem A4 {b:Frame} {a:Act} {k:List Item} {cs:List Frame} {w:World} {c:Code}:step P (lone (b.atR a (.inScope c::k)) cs w)=.next (lone (b.atR a k) cs w):=
 step_lone_go (by simp [stepG,stepG.exec,Frame.atR])
theorem qW {F:Fence} {n:Nat} {Q:Exit→Act→World→Prop} {a:Act} {w:World} {c:Code} (h:c.wpIn F n P (Exit.noGoto Q) a w):(Code.scope c).wpIn F n P Q a w:=by
 intro b k cs hro hb hr;obtain⟨e,a₁,w₁,hq,xh⟩:=h b (.inScope c::k) cs hro hb hr;have s0:StepsIn (Machine.fenced P F) P (lone (b.atR a (.code (.scope c)::k)) cs w) (lone (b.atR a (.code c::.inScope c::k)) cs w):=.one (fenced_calm hb hr rfl) Ib;cases e with
 |normal=>exact⟨.normal,a₁,w₁,hq,StepsIn.trans s0 (StepsIn.trans xh (.one (fenced_calm hb hr rfl) A4))⟩
 |exit id=>
  have hx:exitTo id (.inScope c::k)=exitTo id k:=by simp [exitTo]
  exact⟨.exit id,a₁,w₁,hq,fun k' hk=>StepsIn.trans s0 (xh.1 k' (by rw [hx];exact hk)),fun BS hk=>let ⟨k₁,h1,h2⟩:=xh.2 BS (by rw [hx];exact hk);⟨k₁,h1,StepsIn.trans s0 h2⟩⟩
 |goto l=>exact hq.elim
 |ret=>exact⟨_,a₁,w₁,hq,.of_steps s0 xh⟩
 |panic ch=>exact⟨_,a₁,w₁,hq,.of_steps s0 xh⟩
 |outgrown=>exact⟨_,a₁,w₁,hq,.of_steps s0 xh⟩
theorem K5 {o co:Obj} {k:Nat} {s s1:St μ} (h:(new o:M I Nat).run s=some (k,s1)) {E:Env} {g:Nat→Option Obj} {w:World} (hR:Rel P lo w0 E g w) (hA:fA I s s1 g) (hF:gX s s1 E)
  (ho:∀E',(∀i x,E i=some x→E' i=some x)→OR P E' 0 o co):∃E1,Env.Ext E E1 s.next s1.next∧E1 k=some (w.heap.size,0)∧Rel P lo w0 E1 (merge I s1 g) (w.alloc co):=by
 obtain⟨rfl,e2,e3,e4,e5,e6⟩:=Dv h;have hk:E s.next=none:=hF s.next (Nat.le_refl _) af;refine⟨E.put s.next w.heap.size 0,⟨Env.gK hk,fun i hi=>?_⟩,by simp [Env.put], ?_⟩
 ·exact RR
 ·rw [jH hA e5 e6];refine hR.name hk (hR.alloc _) hR.below.size (gO w _) (fun i _ hi=>Below.heap_alloc w _ i hi) (fun i o' r' hi he=>?_) (ho _ (Env.gK hk));exact absurd (hR.lt hi he) (Nat.lt_irrefl _)
theorem Ab {E:Env} {a:aO} {ca:Act} (ha:nY E a ca):jk E (tmpsOf a) ca.tmps:=by
 refine⟨by simp [tmpsOf,ha.size],fun x y j hx hy=>?_⟩;have hj:j<ca.tmps.size:=(Array.getElem?_eq_some_iff.1 hy).1;have h1:=ha.val j;have h2:ca.tmps.getD j undef=y:=by simp [Array.getD_eq_getD_getElem?,hy]
 have h3:x=a.val j:=by
  unfold tmpsOf at hx;rw [List.getElem?_toArray,List.getElem?_map] at hx;have hj':j<a.n:=by rw [←ha.size];exact hj
  rw [List.getElem?_range hj'] at hx;simpa using hx.symm
 rw [h3,←h2];exact h1
theorem WY {ρ ρ':Option Nat} {a:aO} {ca:Act} {ps:Array Tmp} {as b:Code} {l:Nat} {mark:List Deferred} {s s1:St μ} (h:(sw ρ a ps as b:M I (Nat × List Deferred)).run s=some ((l,mark),s1)) {E:Env} {g:Nat→Option Obj} {w:World}
  (hρ:Rv E ρ ρ') (hR:Rel P lo w0 E g w) (hA:fA I s s1 g) (hF:gX s s1 E) (ha:nY E a ca) (fn:FuncId):
  ∃E1 bl MI w1,(Instr.enterLoop fn ca.tmps ps as b ρ').run P w=.ok (bl,MI) w1∧Env.Ext E E1 s.next s1.next∧(∃q,E1 l=some (bl,q))∧nY E1 (marked a mark) {ca with defers:=MI++ca.defers}∧Rel P lo w0 E1 (merge I s1 g) w1:=by
 unfold sw at h;cases ρ with
 |none=>
  cases ρ' with
  |some x=>exact hρ.elim
  |none=>
  simp only at h;obtain⟨r,s2,h1,h2⟩:=aH h;obtain⟨l',s3,h3,h4⟩:=aH h2;obtain⟨h5,rfl⟩:=pure_run h4;cases h5;have l1:=(new (I:=I) (.deferred (some []))).le _ _ _ h1;have l2:=M.le _ _ _ _ h3;obtain⟨E1,x1,k1,R1⟩:=K5 h1 hR (hA.first l2) (hF.first l2.next) (co:=.deferred (some [])) (fun _ _=>.collected);obtain⟨lM,iZ,pJ,j8⟩:=chain h1 l2 hA hF x1;have ht:=Ab (ha.mono x1.keep);obtain⟨E2,x2,k2,R2⟩:=K5 h3 R1 lM iZ (co:=.loop {state:=.ready,pending:=none,fn,tmps:=ca.tmps,params:=ps,assign:=as,body:=b,defers:=w.heap.size})
   (fun E' hE'=>.loop rfl rfl rfl rfl rfl ht.1 (fun a c j h1 h2=>(ht.2 a c j h1 h2).mono hE') (hE' _ _ k1))
  have hx:=pJ E2 x2;refine⟨E2,_,_,_,run_enterLoop_outer fn ca.tmps ps as b,hx,⟨0,by rw [k2,World.size_alloc]⟩, ?_,by rw [j8] at R2;exact R2⟩;have hm:=ha.mono hx.keep;refine⟨hm.size,hm.val,by simp [marked,hm.len],fun j d d' hd hd'=>?_⟩;rcases j with _|j
  ·simp [marked] at hd hd';subst hd hd';exact .inr ⟨_,_,0,rfl,rfl,x2.keep _ _ k1⟩
  ·simp [marked] at hd hd';exact hm.defers j d d' hd hd'
 |some k=>
  cases ρ' with
  |none=>exact hρ.elim
  |some bk=>
  obtain⟨q,hq⟩:=hρ;simp only at h;obtain⟨ob,s2,h1,h2⟩:=aH h;cases ob with
  |loop r0=>
   simp only at h2;obtain⟨l',s3,h3,h4⟩:=aH h2;obtain⟨h5,rfl⟩:=pure_run h4;cases h5;obtain⟨e1,e2,e3,e4,e5⟩:=rS h1;have l2:=M.le _ _ _ _ h3;have hm:merge I s2 g=g:=gP (hA.first l2) (fun k=>by rw [e4]) (fun k=>by rw [e3]);have l1:=(rd (I:=I) k).le _ _ _ h1;have lM:fA I s2 s1 g:=by have:=hA.second l1 l2;rwa [hm] at this
   have iZ:gX s2 s1 E:=fun i h1 h2=>hF i af h2
   have hg:g k=some (.loop r0):=Rw;obtain⟨y,q',y0,y1,y2,y3,y4,y5,y6,y7⟩:=xK hR hg hq;have ht:=Ab ha;obtain⟨E2,x2,k2,R2⟩:=K5 h3 hR lM iZ (co:=.loop {state:=.ready,pending:=none,fn,tmps:=ca.tmps,params:=ps,assign:=as,body:=b,defers:=y.defers})
    (fun E' hE'=>.loop rfl rfl rfl rfl rfl ht.1 (fun a c j h1 h2=>(ht.2 a c j h1 h2).mono hE') (hE' _ _ y7))
   have hx:Env.Ext E E2 s.next s1.next:=⟨x2.keep,fun i hi=>(x2.dom i hi).imp id fun h=>by rw [e2] at h;exact h⟩;refine⟨E2,_,_,_,run_enterLoop_inner y0 fn ca.tmps ps as b,hx,⟨0,k2⟩, ?_,R2⟩;have hm:=ha.mono hx.keep;exact⟨hm.size,hm.val,by simp [marked,hm.len],fun j d d' hd hd'=>hm.defers j d d' (by simpa [marked] using hd) (by simpa using hd')⟩
  |_=>exact(aM h2).elim
theorem WZ {X:Hk} (H:Plain P X w0.w) {self:Self I} (hk:iD P lo w0 self.call) {ρ:Option Nat} (g0:Operand) (ps:Array Tmp) (as b:Code) (a:aO):oL P lo w0 ρ (Dh X lo self ρ g0 ps as b a) a (fun ρ' Q ca w=>(Code.rangeFunc g0 ps as b).wpIn (uP ρ') 0 P Q ca w):=by
 intro s e a' s' hr E g w ca Q ρ' hρ hR hA hF ha hQ;unfold Dh at hr;obtain⟨⟨l,mark⟩,s1,h1,h2⟩:=aH hr;have hle:St.Le I s1 s':=M.le _ _ _ _ h2;unfold QV at h2;split at h2
 ·rename_i f first cap hv
  cases hx:X.X f with
  |false=>rw [hx] at h2;exact(aM h2).elim
  |true=>
   rw [hx,cond_true] at h2;obtain⟨en,s2,h3,h4⟩:=aH h2;have kB:St.Le I s2 s':=M.le _ _ _ _ h4;obtain⟨fn',f1,f2,f3⟩:=H.x f hx;have f3':fn'.body≠none:=fun e=>by rw [e] at f3;cases f3
   have f2' : ¬ fn'.name = "runtime.NumGoroutine" := by simpa using f2
   have hvr:=ha.ev (lo:=lo) hR.old _ _ hv;generalize hq:ca.eval g0=gv at hvr;cases hvr with
   | @func _ _ _ cs ds g1 g2 g3 g4=>
    refine wpIn_rangeFunc fun fn _=>?_
    obtain⟨E1,bl,MI,w1,hrun,x1,⟨q,BH⟩,ha1,R1⟩:=WY (ρ':=ρ') h1 hρ hR (hA.first hle) (hF.first hle.next) ha fn;obtain⟨lM,iZ,pJ,j8⟩:=chain h1 hle hA hF x1;refine⟨bl,MI,w1,{target:=.fn (.func f) ds,args:=cs++#[.func (.yield bl) #[] #[]]},w1,f,cs++#[.func (.yield bl) #[] #[]]++ds,w1,hrun, ?_,fun _ _=>trivial, ?_,kM,qa ?_⟩
    ·have hc:ca.eval (.const (.func (.yield bl) #[] #[]))=.func (.yield bl) #[] #[]:=rfl;simp [resolve,hq,hc,Deferred.ofValue]
    ·simp [invoke,callFunc,f1,f2',f3']
    ·have eE:jk E1 (first++#[.func (.yield l) #[] #[]]++cap) (cs++#[.func (.yield bl) #[] #[]]++ds):=
      jk.append (jk.append (jk.mono x1.keep ⟨g1,g2⟩) ⟨rfl,fun x y j hx hy=>by
       rcases j with _|j
       ·simp at hx hy;subst hx hy;exact .yield BH
       ·simp at hx⟩) (jk.mono x1.keep ⟨g3,g4⟩)
     refine(hk f _ s1 en s2 h3 E1 _ w1 _ R1 (lM.first kB) (iZ.first kB.next) eE).mono fun e2 w2 ⟨E2,x2,hen,R2⟩=>?_
     obtain⟨nS,hF2,Pn,tF⟩:=chain h3 kB lM iZ x2;have ha2:=ha1.mono x2.keep;have yX:=x2.keep _ _ BH;unfold yI at h4;cases en with
     |panic v=>
      cases e2 with
      |returned v'=>exact hen.elim
      |outgrown=>exact hen.elim
      |panicked c=>
       simp only at h4;obtain⟨h5,rfl⟩:=pure_run h4;cases h5;exact hQ E2 (.panic c) _ w2 (pJ E2 x2) hen ha2 (by rw [j8] at R2;exact R2)
     |ret v=>
      cases e2 with
      |panicked c=>exact hen.elim
      |outgrown=>exact hen.elim
      |returned v'=>
       simp only at h4;obtain⟨jump,s3,h5,h6⟩:=aH h4;have mU:St.Le I s3 s':=M.le _ _ _ _ h6;unfold Fy at h5;obtain⟨ob,s4,h7,h8⟩:=aH h5;cases ob with
       |loop r=>
        simp only at h8;have hst:r.state≠ .busy:=fun e=>by rw [e] at h8;exact(aM h8).elim
        have h8':(wr lo l (some (.loop {r with state:=.exhausted}))>>=fun _=>pure r.pending:M I (Option Code)).run s4=some (jump,s3):=by
         cases hs:r.state<;>rw [hs] at h8<;>first|exact absurd hs hst|exact h8
        obtain⟨u,s5,h9,h10⟩:=aH h8';obtain⟨h11,rfl⟩:=pure_run h10;have hgr:merge I s2 (merge I s1 g) l=some (.loop r):=by
         obtain⟨e1',e2',e3',e4',e5'⟩:=rS h7;have l6:=M.le _ _ _ _ h9;rw [(nS.first mU) l (by rw [l6.T l e5',Bool.true_or]),e1']
        obtain⟨y,q',y0,y1,y2,y3,y4,y5,y6,y7⟩:=xK R2 hgr yX;obtain⟨n1,R3⟩:=Dp h7 h9 R2 (nS.first mU) yX y0 (y':={y with state:=.exhausted}) (fun q=>.loop rfl y2 y3 y4 y5 y6.1 y6.2 y7);have x3:Env.Ext E2 E2 s2.next s3.next:=⟨fun _ _ h=>h,fun _ h=>.inl h⟩;obtain⟨hA3,hF3,hX3,Yf⟩:=chain h5 mU nS hF2 x3;refine⟨y.pending,_,run_endLoop y0 (by rw [y1];exact hst), ?_⟩;rw [y2,←h11];rw [y2,←h11] at R3;have yu:merge I s3 (merge I s2 (merge I s1 g))=merge I s3 g:=by rw [lY _ (M.le _ _ _ _ h5),lY _ ((M.le _ _ _ _ h3).trans (M.le _ _ _ _ h5))]
        rw [yu] at R3;unfold ada at h6;split at h6
        ·obtain⟨j1,rfl⟩:=pure_run h6;cases j1;exact hQ E2 .normal _ _ (pJ E2 (Pn E2 x3)) trivial ha2 R3
        ·obtain⟨j1,rfl⟩:=pure_run h6;cases j1;exact wpIn_ret (hQ E2 .ret _ _ (pJ E2 (Pn E2 x3)) trivial ha2 R3)
        ·obtain⟨j1,rfl⟩:=pure_run h6;cases j1;exact wpIn_exit (hQ E2 (.exit _) _ _ (pJ E2 (Pn E2 x3)) rfl ha2 R3)
        ·exact(aM h6).elim
       |_=>exact(aM h8).elim
 ·exact(aM h2).elim
theorem XL (hm:P.follows .mixedOrders=true) {X:Hk} (H:Plain P X w0.w) {self:Self I} (hc:iE P lo w0 self.code) (hk:iD P lo w0 self.call):iE P lo w0 (ES P X lo self):=by
 intro ρ c a;cases c with
 |skip=>exact oL.same (fun E ca w Q ce _ he hq=>by cases ce<;>simp only [CP] at he<;>first|exact he.elim|exact wpIn_skip hq) (fun E=>⟨.normal,trivial⟩)
 |label l=>exact oL.same (fun E ca w Q ce _ he hq=>by cases ce<;>simp only [CP] at he<;>first|exact he.elim|exact wpIn_label hq) (fun E=>⟨.normal,trivial⟩)
 |ret=>exact oL.same (fun E ca w Q ce _ he hq=>by cases ce<;>simp only [CP] at he<;>first|exact he.elim|exact wpIn_ret hq) (fun E=>⟨.ret,trivial⟩)
 |exit id=>exact oL.same (fun E ca w Q ce _ he hq=>by cases ce<;>simp only [CP] at he<;>first|exact he.elim|(subst he;exact wpIn_exit hq)) (fun E=>⟨.exit id,rfl⟩)
 |seq x y=>
  intro s e a' s' hr E g w ca Q ρ' hρ hR hA hF ha hQ;obtain⟨⟨x1,a1⟩,s1,h1,h2⟩:=aH hr;have hle:St.Le I s1 s':=M.le _ _ _ _ h2;refine wpIn_seq (hc ρ x a s x1 a1 s1 h1 E g w ca _ ρ' hρ hR (hA.first hle) (hF.first hle.next) ha fun E1 ce qD w1 hx1 xj ha1 jX=>?_);obtain⟨lM,iZ,pJ,j8⟩:=chain h1 hle hA hF hx1;cases x1 with
  |normal=>
   cases ce<;>simp only [CP] at xj<;>first|exact xj.elim|skip
   exact hc ρ y a1 s1 e a' s' h2 E1 _ w1 qD Q ρ' (hρ.mono hx1.keep) jX lM iZ ha1 fun E' ce kA w' Jo IA ha' xF=>hQ E' ce kA w' (pJ E' Jo) IA ha' (by rw [j8] at xF;exact xF)
  |exit id=>
   exact zG
  |ret=>
   exact D6
  |panic v=>
   exact zG
 |cond c x y=>
  intro s e a' s' hr E g w ca Q ρ' hρ hR hA hF ha hQ;change (QU lo self ρ c x y a).run s=_ at hr;unfold QU at hr;split at hr
  ·rename_i b hb;have hv:=ha.ev (lo:=lo) hR.old _ _ hb;generalize hq:ca.eval c=q at hv;cases hv;refine wpIn_cond hq ?_;cases b with
   |true=>exact hc ρ x a s e a' s' hr E g w ca Q ρ' hρ hR hA hF ha hQ
   |false=>exact hc ρ y a s e a' s' hr E g w ca Q ρ' hρ hR hA hF ha hQ
  ·exact(aM hr).elim
 |block id b=>
  intro s e a' s' hr E g w ca Q ρ' hρ hR hA hF ha hQ;obtain⟨⟨x1,a1⟩,s1,h1,h2⟩:=aH hr;have hle:St.Le I s1 s':=M.le _ _ _ _ h2;refine wpIn_block (hc ρ b a s x1 a1 s1 h1 E g w ca _ ρ' hρ hR (hA.first hle) (hF.first hle.next) ha fun E1 ce qD w1 hx1 xj ha1 jX=>?_);cases x1 with
  |normal=>
   exact D6
  |exit j=>
   cases ce<;>simp only [CP] at xj<;>first|exact xj.elim|skip
   subst xj;change (bif Nat.beq j id then(pure (.normal,a1):M I (cG × aO)) else pure (.exit j,a1)).run s1=_ at h2;cases hb:Nat.beq j id with
   |true=>
    rw [hb] at h2;obtain⟨h3,rfl⟩:=pure_run h2;cases h3;have:=Nat.eq_of_beq_eq_true hb;subst this;show(if j=j then Q .normal qD w1 else Q (.exit j) qD w1);rw [if_pos rfl];exact hQ E1 .normal qD w1 hx1 trivial ha1 jX
   |false=>
    rw [hb] at h2;obtain⟨h3,rfl⟩:=pure_run h2;cases h3;have hne:j≠id:=fun e=>by subst e;simp at hb
    show(if j=id then Q .normal qD w1 else Q (.exit j) qD w1);rw [if_neg hne];exact hQ E1 (.exit j) qD w1 hx1 rfl ha1 jX
  |ret=>
   exact D6
  |panic v=>
   exact zG
 |loop b=>
  intro s e a' s' hr E g w ca Q ρ' hρ hR hA hF ha hQ;exact wpIn_loop_rounds 1000000 (MH hc ρ b 1000000 a s e a' s' hr E g w ca Q ρ' hρ hR hA hF ha hQ)
 |scope b=>
  intro s e a' s' hr E g w ca Q ρ' hρ hR hA hF ha hQ;refine qW (hc ρ b a s e a' s' hr E g w ca _ ρ' hρ hR hA hF ha fun E' ce kA w' Jo IA ha' xF=>?_);have:=hQ E' ce kA w' Jo IA ha' xF;cases ce with
  |goto l=>cases e<;>exact IA.elim
  |normal=>exact this
  |exit i=>exact this
  |ret=>exact this
  |panic c=>exact this
  |outgrown=>exact this
 |region id ops draw=>
  cases draw with
  |false=>
   intro s e a' s' hr E g w ca Q ρ' hρ hR hA hF ha hQ;exact wpIn_region_list (kP H hc hk ops.toList a s e a' s' hr E g w ca Q ρ' hρ hR hA hF ha hQ)
  |true=>
   intro s e a' s' hr E g w ca Q ρ' hρ hR hA hF ha hQ;exact wpIn_region_any hm (WL (H:=H) hc hk a s e a' s' hr E g w.drew ca Q ρ' hρ (yQ hR) hA hF ha hQ)
 |rangeFunc g ps as b=>exact WZ H hk g ps as b a
 |goto l=>exact fun s e a' s' hr=>(aM hr).elim
 |refuse why=>exact fun s e a' s' hr=>(aM hr).elim
def agr (P:Program) (lo:gp) (w0:Bs) (K:XI I):Prop:=∀h,K=some h→∀f args m,h f args=some m→∀s r s',m.run s=some (r,s')→∀E g w gC,Rel P lo w0 E g w→fA I s s' g→gX s s' E→jk E args gC→
 Calls P f gC w fun e w'=>∃E',Env.Ext E E' s.next s'.next∧EnR E' r e∧Rel P lo w0 E' (merge I s' g) w'
end Go.Am

/- A part of the proof. Conditions: none. -/
set_option maxRecDepth 100000
set_option maxHeartbeats 8000000
namespace Go.Am
open Go Go.RowKit
noncomputable section
variable {μ:Type} {I:ki μ} {P:Program} {lo:gp} {w0:Bs} {E:Env}
inductive rQ where
 |ret
 |panic (v:Value) (apG:Bool)
def rQ.settle:rQ→rQ
 | .panic _ true=>.ret
 |m=>m
def MQ (E:Env):rQ→FrameMode→Prop
 | .ret,.returning=>True
 | .panic v c,.panicking ch=>∃v',ch=[{v:=v',recovered:=c}]∧VR E v v'
 |_,_=>False
theorem MQ.mono {E E':Env} (hE:∀k x,E k=some x→E' k=some x) {u:rQ} {m:FrameMode} (h:MQ E u m):MQ E' u m:=by
 cases u<;>cases m<;>first|exact h.elim|trivial|skip
 obtain⟨v',h1,h2⟩:=h;exact⟨v',h1,h2.mono hE⟩
theorem MQ.settle {u:rQ} {m:FrameMode} (h:MQ E u m):MQ E u.settle (Go.settle m):=by
 cases u<;>cases m<;>first|exact h.elim|trivial|skip
 rename_i v c ch;obtain⟨v',rfl,h2⟩:=h;cases c with
 |true=>exact trivial
 |false=>exact⟨v',rfl,h2⟩
def isRec (o:Oper):Bool:=match o.op with
 | .call c=>match c.callee with
  | .builtin .recover=>true
  |_=>false
 |_=>false
abbrev qP:=(cG × aO) × rQ
def thenS (k:aO→rQ→M I qP) (u:rQ) (r:cG × aO):M I qP:=match r with
 |(.normal,a1)=>k a1 u
 |r=>pure (r,u)
def apH (o:Oper) (k:aO→rQ→M I qP) (a:aO) (u:rQ):M I qP:=match u with
 | .panic v false=>kW a o.dst v>>=fun a1=>k a1 (.panic v true)
 |u=>kW a o.dst .nilIface>>=fun a1=>k a1 u
def XH (a:aO) (o:Oper) (k:aO→rQ→M I qP) (u:rQ) (e:mE):M I qP:=match e with
 | .ret v=>kW a o.dst v>>=fun a1=>k a1 u
 | .panic v=>pure ((.panic v,a),u)
def agm (self:Self I) (a:aO) (o:Oper) (k:aO→rQ→M I qP) (u:rQ) (r:cA):M I qP:=match r with
 | .val v=>kW a o.dst v>>=fun a1=>k a1 u
 | .call f args=>self.call f args>>=XH a o k u
 |_=>fail
def IX (P:Program) (X:Hk) (lo:gp) (self:Self I) (ops:Array Oper):List Oper→aO→rQ→M I qP
 |[],a,u=>pure ((.normal,a),u)
 |o::rest,a,u=>bif jC ops a o then(bif isRec o then apH o (IX P X lo self ops rest) a u else jl P X lo (CN lo a) o>>=agm self a o (IX P X lo self ops rest) u) else kW a o.dst undef>>=fun a1=>IX P X lo self ops rest a1 u
def acE (u:rQ) (r:cG × aO):M I qP:=pure (r,u)
def akX (k:aO→rQ→M I qP) (r:qP):M I qP:=match r with
 |((.normal,a1),u1)=>k a1 u1
 |r=>pure r
def ER (P:Program) (X:Hk) (lo:gp) (self:Self I):Code→aO→rQ→M I qP
 | .seq x y,a,u=>ER P X lo self x a u>>=akX (ER P X lo self y)
 | .region _ ops false,a,u=>IX P X lo self ops ops.toList a u
 |c,a,u=>self.code none c a>>=acE u
def acF (r:qP):M I rQ:=match r with
 |((.normal,⟨_,_,[]⟩),u)=>pure u
 |((.ret,⟨_,_,[]⟩),u)=>pure u
 |_=>fail
def CO (args:Array Value) (fn:Func):aO:=⟨args.size+(fn.ntmps - args.size),xZ args.toList 0 .leaf,[]⟩
def IY (P:Program) (X:Hk) (lo:gp) (self:Self I) (f:FuncId) (args:Array Value) (u:rQ):M I rQ:=match P.funcs[f]? with
 |some fn=>match fn.body with
  |some c=>bif Nat.blt args.size 4000 && fn.results.isEmpty then ER P X lo self c (CO args fn) u>>=acF else fail
  |none=>fail
 |none=>fail
def akY (P:Program) (fn:Func) (a:aO) (u:rQ):M I mE:=match u with
 | .ret=>agn P fn a>>=fun v=>pure (.ret v)
 | .panic v false=>pure (.panic v)
 |_=>fail
def acG (lo:gp) (k:Nat):M I Unit:=rd k>>=fun o=>match o with
 | .deferred (some [])=>wr lo k (some (.deferred none))
 |_=>fail
def jD (P:Program) (X:Hk) (lo:gp) (self:Self I) (fn:Func) (a:aO):List Deferred→rQ→M I mE
 |[],u=>akY P fn a u
 |d::ds,u=>match d.target with
  | .fn (.func f) cap=>bif X.X f then IY P X lo self f (d.args++cap) u>>=fun u1=>jD P X lo self fn a ds u1.settle else fail
  | .collected k=>acG lo k>>=fun _=>jD P X lo self fn a ds u
  |_=>fail
def akZ (P:Program) (X:Hk) (lo:gp) (self:Self I) (fn:Func) (r:cG × aO):M I mE:=match r.1 with
 | .normal=>jD P X lo self fn r.2 r.2.defers .ret
 | .ret=>jD P X lo self fn r.2 r.2.defers .ret
 | .panic v=>jD P X lo self fn r.2 r.2.defers (.panic v false)
 |_=>fail
def Pk (P:Program) (X:Hk) (lo:gp) (self:Self I) (args:Array Value) (fn:Func):M I mE:=match fn.body with
 |some c=>bif Nat.blt args.size 4000 then self.code none c (CO args fn)>>=akZ P X lo self fn else fail
 |none=>fail
def qC (P:Program) (X:Hk) (lo:gp) (self:Self I) (f:FuncId) (args:Array Value):M I mE:=match X.L f args.toList with
 |some v=>pure (.ret v)
 |none=>match P.funcs[f]? with
  |some fn=>Pk P X lo self args fn
  |none=>fail
def uN (P:Program) (X:Hk) (lo:gp) (K:XI I) (self:Self I) (f:FuncId) (args:Array Value):M I mE:=match K with
 |none=>qC P X lo self f args
 |some h=>match h f args with
  |some m=>m
  |none=>qC P X lo self f args
def Bc (P:Program) (X:Hk) (lo:gp) (K:XI I):Nat→Self I
 |0=>⟨fun _ _ _=>fail,fun _ _=>fail⟩
 |n+1=>⟨ES P X lo (Bc P X lo K n),uN P X lo K (Bc P X lo K n)⟩
def K9 (P:Program) (X:Hk) (n:Nat) (f:FuncId) (args:Array Value) (p:Value→Bool):Bool:=match ((Bc (I:=acH) P X ⟨0,0⟩ none n).call f args).run (st0 0) with
 |some (.ret v,_)=>p v
 |_=>false
theorem Bd {args gC:Array Value} {fn:Func} (hsz:args.size<4000) (eE:jk E args gC):nY E (CO args fn) {tmps:=gC++Array.replicate (fn.ntmps - gC.size) undef,defers:=[]}:=by
 unfold CO;refine⟨by simp [eE.1],fun i=>?_,rfl,fun j d d' h=>by simp at h⟩;unfold aO.val;simp only;rw [uO args.toList 0 .leaf i bt];simp only [Nat.zero_le,true_and,Nat.zero_add,Nat.sub_zero,Array.length_toList];by_cases hi:i<args.size
 ·rw [if_pos hi];have hi':i<gC.size:=by rw [←eE.1];exact hi
  have:=eE.2 args[i] gC[i] i (by simp [hi]) (by simp [hi']);simpa [hi,hi',Array.getElem?_append] using this
 ·rw [if_neg hi];have hi':¬i<gC.size:=by rw [←eE.1];exact hi
  have:(gC++Array.replicate (fn.ntmps - gC.size) undef).getD i undef=undef:=by
   simp [Array.getElem?_append,hi',Array.getElem?_replicate];split<;>rfl
  rw [this];exact VR.undef E
def IZ (P:Program) (lo:gp) (w0:Bs) (m:M I qP) (a:aO) (u:rQ) (C:(Exit→Act→List Frame→World→Prop)→Act→List Frame→World→Prop):Prop:=
 ∀s e a' u' s',m.run s=some (((e,a'),u'),s')→∀E g w ca (c0:Frame) (cs:List Frame) (um:FrameMode) Q,Rel P lo w0 E g w→fA I s s' g→gX s s' E→nY E a ca→MQ E u um→
  (∀E' ce kA (OT:FrameMode) w',Env.Ext E E' s.next s'.next→CP E' e ce→nY E' a' kA→MQ E' u' OT→Rel P lo w0 E' (merge I s' g) w'→Q ce kA ({c0 with mode:=OT}::cs) w')→
  C Q ca ({c0 with mode:=um}::cs) w
theorem XJ {o:Oper} (h:isRec o=true) (ρ:Operand→Value) (w:World):(execOp ρ o).run P w=.ok .recover w:=by
 unfold isRec at h;split at h
 ·rename_i c hc;split at h
  ·rename_i hb;obtain⟨callee,args,ts⟩:=c;simp only at hb;subst hb;unfold execOp;rw [hc];simp [resolve,invoke,builtin]
  ·cases h
 ·cases h
theorem tE {X:Hk} (hX:Plain P X w0.w) {self:Self I} (hc:iD P lo w0 self.call) {ops:Array Oper}:∀(is:List Nat) (l:List Oper),is.map (fun i=>ops[i]?)=l.map some→∀(a:aO) (u:rQ),IZ P lo w0 (IX P X lo self ops l a u) a u (fun Q ca cs w=>wpOpsS P ops Q is ca cs w)
 |[],[],_,a,u=>by
  intro s e a' u' s' hr E g w ca c0 cs um Q hR hA hF ha hu hQ;obtain⟨h1,rfl⟩:=pure_run hr;cases h1;exact hQ E .normal ca um w (.refl _ _) trivial ha hu Be
 |[],_::_,h,a,u=>by simp at h
 |_::_,[],h,a,u=>by simp at h
 |i::is,o::rest,h,a,u=>by
  intro s e a' u' s' hr E g w ca c0 cs um Q hR hA hF ha hu hQ;simp only [List.map_cons,List.cons.injEq] at h;obtain⟨ho,h⟩:=h;have hw:=x4 (ops:=ops) ha o;unfold IX at hr;cases oH:jC ops a o with
  |false=>
   rw [oH] at hw;simp only [oH,cond_false] at hr;obtain⟨a1,s1,h1,h2⟩:=aH hr;obtain⟨rfl,ha1⟩:=ha.put (VR.undef E) h1;unfold wpOpsS;simp only [ho,hw,Bool.false_eq_true,if_false];exact tE hX hc is rest h a1 u _ e a' u' s' h2 E g w _ c0 cs um Q hR hA hF ha1 hu hQ
  |true=>
  rw [oH] at hw;simp only [oH,cond_true] at hr;cases hwr:isRec o with
  |true=>
   simp only [hwr,cond_true] at hr;have apI:=XJ (P:=P) hwr ca.eval w;unfold wpOpsS;simp only [ho,hw,if_true,apI];have go:∀(v v':Value) (u1:rQ) (um1:FrameMode),VR E v v'→MQ E u1 um1→(kW a o.dst v>>=fun a1=>IX P X lo self ops rest a1 u1).run s=some (((e,a'),u'),s')→wpOpsS P ops Q is (ca.put o.dst v') ({c0 with mode:=um1}::cs) w:=fun v v' u1 um1 hv Xe hr=>by
    obtain⟨a1,s1,h1,h2⟩:=aH hr;obtain⟨rfl,ha1⟩:=ha.put hv h1;exact tE hX hc is rest h a1 u1 _ e a' u' s' h2 E g w _ c0 cs um1 Q hR hA hF ha1 Xe hQ
   have hnil:VR E .nilIface .nilIface:=dF E 3 .nilIface rfl;cases u with
   |ret=>
    cases um<;>first|exact(show False from hu).elim|skip
    exact go .nilIface .nilIface .ret .returning hnil trivial hr
   |panic v c=>
    cases um<;>first|exact(show False from hu).elim|skip
    obtain⟨v',rfl,hv⟩:=hu;cases c with
    |false=>exact go v v' (.panic v true) (.panicking [{v:=v',recovered:=true}]) hv ⟨v',rfl,hv⟩ hr
    |true=>exact go .nilIface .nilIface (.panic v true) (.panicking [{v:=v',recovered:=true}]) hnil ⟨v',rfl,hv⟩ hr
  |false=>
   simp only [hwr,cond_false] at hr;obtain⟨r,s1,h1,h2⟩:=aH hr;have kB:St.Le I s1 s':=M.le _ _ _ _ h2;have hev:=ha.ev (lo:=lo) hR.old;obtain⟨E1,nx,w1,hrun,hx1,uK,jX⟩:=rR (lo:=lo) (w0:=w0) (E:=E) hX hev o s r s1 h1 E g w (fun _ _ h=>h) hR (hA.first kB) (hF.first kB.next) trivial;obtain⟨lM,iZ,pJ,j8⟩:=chain h1 kB hA hF hx1;have ha1:=ha.mono hx1.keep;unfold wpOpsS;simp only [ho,hw,if_true,hrun];cases r with
   |val v=>
    obtain⟨a1,s2,h3,h4⟩:=aH h2;have key:∀v',VR E1 v v'→wpOpsS P ops Q is (ca.put o.dst v') ({c0 with mode:=um}::cs) w1:=fun v' hv'=>by
     obtain⟨rfl,ha2⟩:=ha1.put hv' h3;exact tE hX hc is rest h a1 u _ e a' u' s' h4 E1 _ w1 _ c0 cs um Q jX lM iZ ha2 (hu.mono hx1.keep) fun E' ce kA OT w' q1 q2 q3 q4 q5=>hQ E' ce kA OT w' (pJ E' q1) q2 q3 q4 (by rw [j8] at q5;exact q5)
    exact Pm
   |call f args=>
    cases nx<;>simp only [NR] at uK<;>first|exact uK.elim|skip
    rename_i f' cs';obtain⟨rfl,eE⟩:=uK;obtain⟨en,s2,h3,h4⟩:=aH h2;have mU:St.Le I s2 s':=M.le _ _ _ _ h4;refine(hc f args s1 en s2 h3 E1 _ w1 cs' jX (lM.first mU) (iZ.first mU.next) eE).mono fun e2 w2 ⟨E2,hx2,hen,qZ⟩=>?_
    obtain⟨nS,hF2,Pn,tF⟩:=chain h3 mU lM iZ hx2;have ha2:=ha1.mono hx2.keep;cases en with
    |ret v=>
     cases e2 with
     |panicked c=>exact hen.elim
     |outgrown=>exact hen.elim
     |returned v'=>
     obtain⟨a1,s3,h5,h6⟩:=aH h4;obtain⟨rfl,ha3⟩:=ha2.put hen h5;exact tE hX hc is rest h a1 u _ e a' u' s' h6 E2 _ w2 _ c0 cs um Q qZ nS hF2 ha3 ((hu.mono hx1.keep).mono hx2.keep) fun E' ce kA OT w' q1 q2 q3 q4 q5=>hQ E' ce kA OT w' (pJ E' (Pn E' q1)) q2 q3 q4 (by rw [tF,j8] at q5;exact q5)
    |panic v=>
     obtain⟨h5,rfl⟩:=pure_run h4;cases h5;cases e2 with
     |panicked c=>exact hQ E2 (.panic c) ca um w2 (pJ E2 hx2) hen ha2 ((hu.mono hx1.keep).mono hx2.keep) (by rw [j8] at qZ;exact qZ)
     |returned v'=>exact hen.elim
     |outgrown=>exact hen.elim
   |_=>exact(aM h2).elim
theorem Po {X:Hk} (hX:Plain P X w0.w) {self:Self I} (nT:iE P lo w0 self.code) (hc:iD P lo w0 self.call):∀(c:Code) (a:aO) (u:rQ),IZ P lo w0 (ER P X lo self c a u) a u (fun Q ca cs w=>c.wpS P Q ca cs w):=by
 have plain:∀(c:Code) (a:aO) (u:rQ),IZ P lo w0 (self.code none c a>>=acE u) a u (fun Q ca cs w=>c.wpS P Q ca cs w):=fun c a u=>by
  intro s e a' u' s' hr E g w ca c0 cs um Q hR hA hF ha hu hQ;obtain⟨⟨e1,a1⟩,s1,h1,h2⟩:=aH hr;obtain⟨q1,rfl⟩:=pure_run h2;cases q1;exact wpS_of_wp (wpIn_wide.1 (nT none c a s _ _ _ h1 E g w ca _ none trivial hR hA hF ha fun E' ce kA w' k1 k2 k3 k4=>hQ E' ce kA um w' k1 k2 k3 (hu.mono k1.keep) k4))
 intro c
 induction c with
 |seq x y ihx ihy=>
  intro a u s e a' u' s' hr E g w ca c0 cs um Q hR hA hF ha hu hQ;obtain⟨⟨⟨e1,a1⟩,u1⟩,s1,h1,h2⟩:=aH (m:=ER P X lo self x a u) hr;have hle:St.Le I s1 s':=M.le _ _ _ _ h2;refine wpS_seq (ihx a u s e1 a1 u1 s1 h1 E g w ca c0 cs um _ hR (hA.first hle) (hF.first hle.next) ha hu fun E1 ce qD um1 w1 k1 k2 k3 k4 k5=>?_);obtain⟨lM,iZ,pJ,j8⟩:=chain h1 hle hA hF k1;cases e1 with
  |normal=>
   cases ce<;>first|exact k2.elim|skip
   exact ihy a1 u1 s1 e a' u' s' h2 E1 _ w1 qD c0 cs um1 Q k5 lM iZ k3 k4 fun E' ce kA OT w' q1 q2 q3 q4 q5=>hQ E' ce kA OT w' (pJ E' q1) q2 q3 q4 (by rw [j8] at q5;exact q5)
  |exit id=>
   exact I0
  |ret=>
   exact I0
  |panic v=>
   exact I0
 |region id ops draw=>
  cases draw with
  |true=>exact fun a u=>plain _ a u
  |false=>
   intro a u s e a' u' s' hr E g w ca c0 cs um Q hR hA hF ha hu hQ;refine wpS_region (tE hX hc (List.range ops.size) ops.toList ?_ a u s e a' u' s' hr E g w ca c0 cs um Q hR hA hF ha hu hQ);apply List.ext_getElem ak;intro i h1 h2;simp at h1 h2;simp [h1]
 |skip=>exact fun a u=>plain _ a u
 |cond c x y _ _=>exact fun a u=>plain _ a u
 |block id b _=>exact fun a u=>plain _ a u
 |loop b _=>exact fun a u=>plain _ a u
 |rangeFunc f ps x y _ _=>exact fun a u=>plain _ a u
 |exit id=>exact fun a u=>plain _ a u
 |scope b _=>exact fun a u=>plain _ a u
 |label l=>exact fun a u=>plain _ a u
 |goto l=>exact fun a u=>plain _ a u
 |ret=>exact fun a u=>plain _ a u
 |refuse why=>exact fun a u=>plain _ a u
theorem MR {fn:Func} (h:fn.results.isEmpty=true) (tmps:Array Value) (w:World):(results fn tmps).run P w=.ok (.tuple #[]) w:=by
 have:fn.results=#[]:=oI;unfold results;rw [this];simp
theorem Az {F:Fence} {n:Nat} {f:FuncId} {args:Array Value} {u:FrameMode} {w:World} {R R':Ending→FrameMode→World→Prop} (h:CallsDIn F n P f args u w R) (hr:∀e u w,R e u w→R' e u w):CallsDIn F n P f args u w R':=
 ⟨h.1,fun c cs hc hroom=>let ⟨e,u',w',fr,r,s,x⟩:=h.2 c cs hc hroom;⟨e,u',w',fr,hr _ _ _ r,s,x⟩⟩
theorem x6 {f:FuncId} {fn:Func} {c:Code} {args:Array Value} {u:FrameMode} {w:World} {R:Ending→FrameMode→World→Prop}
  (hf:P.funcs[f]?=some fn) (hb:fn.body=some c)
  (h:∀(c₀:Frame) (cs:List Frame),c₀.mode=u→
   c.wpS P (bodyPostS P fn c₀ cs R) {tmps:=args++Array.replicate (fn.ntmps - args.size) undef,defers:=[]} (c₀::cs) w):
  CallsDIn (uP none) (0 - 1) P f args u w R:=by
 refine⟨trivial,fun c₀ cs hu _=>?_⟩
 let b:Frame:={(default:Frame) with fn:=f,kind:=.deferred}
 have ago:Frame.enter P f args .deferred=
   b.at {tmps:=args++Array.replicate (fn.ntmps - args.size) undef,defers:=[]} [.code c]:=by
  simp [Frame.enter,Frame.at,hf,hb,b]
 obtain⟨e,a',cs',w',hq,xh⟩:=h c₀ cs hu b [] rfl rfl;rw [←ago] at xh;cases e with
 |normal=>
  obtain⟨hd,u',rfl,v,hr,hR⟩:=hq;exact⟨.returned v,u',w',_,hR,comesIn_wide.2 (show Comes P _ _ (.returned v) from Steps.trans xh (.one step_end)),rfl,rfl,rfl,hd,fn,hf,hr⟩
 |ret=>
  obtain⟨hd,u',rfl,v,hr,hR⟩:=hq;obtain⟨todo,hs⟩:=xh;exact⟨.returned v,u',w',_,hR,comesIn_wide.2 (show Comes P _ _ (.returned v) from hs),rfl,rfl,rfl,hd,fn,hf,hr⟩
 |panic chain=>
  obtain⟨hd,u',rfl,hR⟩:=hq;obtain⟨todo,hs⟩:=xh;exact⟨.panicked chain,u',w',_,hR,comesIn_wide.2 (show Comes P _ _ (.panicked chain) from hs),rfl,rfl,rfl,hd,fn,hf⟩
 |exit id=>exact hq.elim
 |goto l=>exact hq.elim
 |outgrown=>
  obtain⟨u',hR⟩:=hq;exact⟨.outgrown,u',w',b,hR,comesIn_wide.2 (show Comes P _ _ .outgrown from xh.resolve_left (by simp [b])),rfl,rfl,trivial⟩
theorem MS {X:Hk} (hX:Plain P X w0.w) {self:Self I} (nT:iE P lo w0 self.code) (hc:iD P lo w0 self.call) {f:FuncId} {args:Array Value} {u u':rQ} {s s':St μ} (hr:(IY P X lo self f args u).run s=some (u',s'))
  {E:Env} {g:Nat→Option Obj} {w:World} {gC:Array Value} {um:FrameMode} (hR:Rel P lo w0 E g w) (hA:fA I s s' g) (hF:gX s s' E) (eE:jk E args gC) (hu:MQ E u um):
  CallsDIn (uP none) (0 - 1) P f gC um w fun e OT w'=>∃E' v,e=.returned v∧Env.Ext E E' s.next s'.next∧MQ E' u' OT∧Rel P lo w0 E' (merge I s' g) w':=by
 unfold IY at hr;split at hr
 ·rename_i fn hf;split at hr
  ·rename_i c hb;cases hsz:(Nat.blt args.size 4000 && fn.results.isEmpty) with
   |false=>rw [hsz] at hr;exact(aM hr).elim
   |true=>
    rw [hsz,cond_true] at hr;simp only [Bool.and_eq_true,blt_eq,decide_eq_true_eq] at hsz;obtain⟨⟨⟨e1,a1⟩,u1⟩,s1,h1,h2⟩:=aH hr;have hle:St.Le I s1 s':=M.le _ _ _ _ h2;have hend:(e1=.normal∨e1=.ret)∧a1.defers=[]∧u1=u'∧s1=s':=by
     unfold acF at h2;split at h2
     ·rename_i hh;obtain⟨q1,q2⟩:=pure_run h2;cases hh;exact⟨.inl rfl,rfl,q1.symm,q2.symm⟩
     ·rename_i hh;obtain⟨q1,q2⟩:=pure_run h2;cases hh;exact⟨.inr rfl,rfl,q1.symm,q2.symm⟩
     ·exact(aM h2).elim
    obtain⟨xj,XK,rfl,rfl⟩:=hend;refine x6 hf hb fun c0 cs hc0=>?_
    have apJ:c0={c0 with mode:=um}:=by rw [←hc0]
    rw [apJ];refine Po hX nT hc c _ u s e1 a1 u1 s1 h1 E g w _ c0 cs um _ hR hA hF (Bd hsz.1 eE) hu fun E' ce kA OT w' k1 k2 k3 k4 k5=>?_
    have hdd:kA.defers=[]:=by
     have:=k3.len;rw [XK] at this;exact List.eq_nil_of_length_eq_zero (by simpa using this.symm)
    rcases xj with rfl|rfl
    ·exact Pp
    ·exact Pp
  ·exact(aM hr).elim
 ·exact(aM hr).elim
theorem uQ {X:Hk} (hX:Plain P X w0.w) {self:Self I} (nT:iE P lo w0 self.code) (hc:iD P lo w0 self.call) {fn:Func} {a:aO}:∀(ds:List Deferred) (u:rQ) (s:St μ) (r:mE) (s':St μ),(jD P X lo self fn a ds u).run s=some (r,s')→
  ∀(E:Env) (g:Nat→Option Obj) (w:World) (tmps:Array Value) (ds':List Deferred) (um:FrameMode) (R:Ending→World→Prop),Rel P lo w0 E g w→fA I s s' g→gX s s' E→(∀i,VR E (a.val i) (tmps.getD i undef))→MQ E u um→
   ds.length=ds'.length→(∀(j:Nat) (d d':Deferred),ds[j]?=some d→ds'[j]?=some d'→DR E d d')→
   (∀E' e w',Env.Ext E E' s.next s'.next→EnR E' r e→Rel P lo w0 E' (merge I s' g) w'→R e w')→LeavesInM (uP none) 0 P fn tmps R ds' um w
 |[],u,s,r,s',hr,E,g,w,tmps,ds',um,R,hR,hA,hF,hv,hu,hlen,_,hQ=>by
  obtain rfl:ds'=[]:=List.eq_nil_of_length_eq_zero (by simpa using hlen.symm);unfold jD akY at hr;split at hr
  ·cases um<;>first|exact(show False from hu).elim|skip
   obtain⟨v,s2,h4,h5⟩:=aH hr;obtain⟨rfl,rfl⟩:=pure_run h5;obtain⟨E2,v',w2,k1,k2,k3,k4⟩:=Pq (P:=P) (lo:=lo) (w0:=w0) (E:=E) (fn:=fn) (ca:={tmps:=tmps,defers:=[]}) hv s v s' h4 E _ w (fun _ _ h=>h) hR hA hF trivial;have:=ET (P:=P) fn tmps w v' w2 k1;subst this;exact⟨v',k1,hQ E2 _ _ k2 k3 k4⟩
  ·cases um<;>first|exact(show False from hu).elim|skip
   obtain⟨v',rfl,hv'⟩:=hu;obtain⟨rfl,rfl⟩:=pure_run hr;exact hQ E _ w (.refl _ _) ⟨v',rfl,hv'⟩ Be
  ·exact(aM hr).elim
 |d::ds,u,s,r,s',hr,E,g,w,tmps,[],um,R,hR,hA,hF,hv,hu,hlen,Xf,hQ=>by simp at hlen
 |d::ds,u,s,r,s',hr,E,g,w,tmps,d'::ds',um,R,hR,hA,hF,hv,hu,hlen,Xf,hQ=>by
  rcases Xf 0 d d' rfl rfl with⟨f,cap,cap',ht,ht',bz,eE⟩|⟨k,b,q,ht,ht',hkb⟩
  ·unfold jD at hr;rw [ht] at hr;simp only at hr;cases hx:X.X f with
   |false=>rw [hx] at hr;exact(aM hr).elim
   |true=>
    rw [hx,cond_true] at hr;obtain⟨u1,s1,h1,h2⟩:=aH hr;have hle:St.Le I s1 s':=M.le _ _ _ _ h2;obtain⟨fn',g1,g2,g3⟩:=hX.x f hx;have g3':fn'.body≠none:=fun e=>by rw [e] at g3;cases g3
    have Lb : ¬ fn'.name = "runtime.NumGoroutine" := by simpa using g2
    have hne:um≠ .run:=fun e=>by subst e;cases u<;>exact(show False from hu).elim
    refine⟨hne,.inr ⟨kM,.func f,cap',f,d'.args++cap',ht', ?_,fun _ _=>trivial, ?_⟩⟩
    ·rw [ht'];simp [invoke,callFunc,g1,Lb,g3']
    ·refine Az (MS hX nT hc h1 hR (hA.first hle) (hF.first hle.next) (jk.append eE bz) hu) fun e um1 w1 ⟨E1,v,he,k1,k2,k3⟩=>?_
     subst he;obtain⟨lM,iZ,pJ,j8⟩:=chain h1 hle hA hF k1;exact uQ hX nT hc ds u1.settle s1 r s' h2 E1 _ w1 tmps ds' _ R k3 lM iZ (fun i=>(hv i).mono k1.keep) k2.settle (by simpa using hlen) (fun j x y hx hy=>(Xf (j+1) x y x7 (by simpa using hy)).mono k1.keep)
      fun E' e w' q1 q2 q3=>hQ E' e w' (pJ E' q1) q2 (by rw [j8] at q3;exact q3)
  ·unfold jD at hr;rw [ht] at hr;simp only at hr;obtain⟨u1,s1,h1,h2⟩:=aH hr;have hle:St.Le I s1 s':=M.le _ _ _ _ h2;have hne:um≠ .run:=fun e=>by subst e;cases u<;>exact(show False from hu).elim
   unfold acG at h1;obtain⟨ob,s2,h3,h4⟩:=aH h1;have hob:ob=.deferred (some []):=by
    cases ob<;>first|exact(aM h4).elim|skip
    rename_i x;cases x with
    |none=>exact(aM h4).elim
    |some l=>cases l with
     |nil=>rfl
     |cons y l=>exact(aM h4).elim
   subst hob;simp only at h4;obtain⟨e1,e2,e3,e4,e5⟩:=rS h3;obtain⟨w1',⟨o0,w2'⟩,w3',w4',w5',w6'⟩:=CQ h4;have l1:=(rd (I:=I) k).le _ _ _ h3;have l2:=(wr (I:=I) lo k (some (.deferred none))).le _ _ _ h4;have hm:merge I s2 g=g:=gP ((hA.first hle).first l2) (fun k=>by rw [e4]) (fun k=>by rw [e3]);have lM:fA I s2 s1 g:=by have:=(hA.first hle).second l1 l2;rwa [hm] at this
   have hg:g k=some (.deferred (some [])):=by rw [(hA.first hle) k (by rw [l2.T k e5,Bool.true_or]),e1]
   obtain⟨b',r',co,q1,q2,q3⟩:=hR.tie _ _ hg;rw [hkb] at q1;cases q1;cases q3 with
   |collected=>
    have jX:Rel P lo w0 E (merge I s1 g) (w.putObj b (.deferred none)):=by
     rw [jH lM w5' w6'];exact hR.write hg hkb w1' (q7 q2) .shut
    have x1:Env.Ext E E s.next s1.next:=⟨fun _ _ h=>h,fun _ h=>.inl h⟩;obtain⟨nS,hF2,Pn,tF⟩:=chain h1 hle hA hF x1;exact⟨hne,.inl ⟨b,_,ht',run_takeDeferred q2,uQ hX nT hc ds u s1 r s' h2 E _ _ tmps ds' um R jX nS hF2 hv hu (by simpa using hlen) (fun j x y hx hy=>Xf (j+1) x y x7 (by simpa using hy))
     fun E' e w' q1 q2 q3=>hQ E' e w' (Pn E' q1) q2 (by rw [tF] at q3;exact q3)⟩⟩
theorem Pr {X:Hk} (H:Plain P X w0.w) {self:Self I} (nT:iE P lo w0 self.code) (hc:iD P lo w0 self.call):iD P lo w0 (qC P X lo self):=by
 intro f args s r s' hr E g w gC hR hA hF eE;unfold qC at hr;split at hr
 ·rename_i v hl;obtain⟨rfl,rfl⟩:=pure_run hr;obtain⟨l1,l2,l3⟩:=H.l f _ v hl;have he:=eE.gL l1;have:=l3 w hR.below;rw [show args.toList.toArray=args by simp,←he] at this;refine this.mono fun e w' ⟨h1,h2⟩=>⟨E,.refl _ _, ?_, ?_⟩
  ·subst h1;exact dF E 3 v l2
  ·rw [gP hA (fun _=>rfl) (fun _=>rfl)];exact hR.agq h2
 ·split at hr
  ·rename_i fn hf;unfold Pk at hr;split at hr
   ·rename_i c hb;cases hsz:Nat.blt args.size 4000 with
    |false=>simp only [hsz] at hr;exact(aM hr).elim
    |true=>
     simp only [hsz,cond_true] at hr;rw [blt_eq,decide_eq_true_eq] at hsz;obtain⟨⟨x,a1⟩,s1,h1,h2⟩:=aH hr;have hle:St.Le I s1 s':=M.le _ _ _ _ h2;refine MT (callsIn_of_wp_marks hf hb trivial ?_);refine nT none c _ s x a1 s1 h1 E g w _ _ none trivial hR (hA.first hle) (hF.first hle.next) (Bd hsz eE) fun E1 ce qD w1 hx1 xj ha1 jX=>?_
     obtain⟨lM,iZ,pJ,j8⟩:=chain h1 hle hA hF hx1;have leave:∀u um,MQ E1 u um→(jD P X lo self fn a1 a1.defers u).run s1=some (r,s')→LeavesInM (uP none) 0 P fn qD.tmps (fun e w'=>∃E',Env.Ext E E' s.next s'.next∧EnR E' r e∧Rel P lo w0 E' (merge I s' g) w') qD.defers um w1:=fun u um hu h3=>
      uQ H nT hc a1.defers u s1 r s' h3 E1 _ w1 qD.tmps qD.defers um _ jX lM iZ ha1.val hu ha1.len ha1.defers fun E' e w' q1 q2 q3=>⟨E',pJ E' q1,q2,by rw [j8] at q3;exact q3⟩
     cases x with
     |normal=>
      exact Pt
     |ret=>
      exact Pt
     |exit j=>exact(aM h2).elim
     |panic v=>
      cases ce<;>simp only [CP] at xj<;>first|exact xj.elim|skip
      exact leave (.panic v false) (.panicking _) xj h2
   ·exact(aM hr).elim
  ·exact(aM hr).elim
theorem pK (hm:P.follows .mixedOrders=true) {X:Hk} (H:Plain P X w0.w) {K:XI I} (hK:agr P lo w0 K):∀n,iE P lo w0 (Bc (I:=I) P X lo K n).code∧iD P lo w0 (Bc (I:=I) P X lo K n).call
 |0=>⟨fun ρ c a s e a' s' hr=>(aM hr).elim,fun f args s r s' hr=>(aM hr).elim⟩
 |n+1=>⟨XL hm H (pK hm H hK n).1 (pK hm H hK n).2,by
   have hb:=Pr H (pK hm H hK n).1 (pK hm H hK n).2;intro f args s r s' hr E g w gC hR hA hF eE;change (uN P X lo K (Bc P X lo K n) f args).run s=_ at hr;unfold uN at hr;split at hr
   ·exact hb f args s r s' hr E g w gC hR hA hF eE
   ·rename_i h;split at hr
    ·rename_i m hm;exact hK h rfl f args m hm s r s' hr E g w gC hR hA hF eE
    ·exact hb f args s r s' hr E g w gC hR hA hF eE⟩
theorem vL (hm:P.follows .mixedOrders=true) {X:Hk} (w:World) (H:Plain P X w) {n:Nat} {f:FuncId} {args:Array Value} {p:Value→Bool} (h:K9 P X n f args p=true) (hg:args.toList.all (gL 3)=true):
  Calls P f args w fun e w'=>∃(v v':Value) (E:Env),p v=true∧e=.returned v'∧VR E v v'∧Below w.heap.size w w':=by
 unfold K9 at h;split at h
 ·rename_i v s' hr;have hR:Rel P ⟨0,0⟩ ⟨w,fun _=>none⟩ (fun _=>none) (fun _=>none) w:=⟨Below.refl _ _,(fun k o h=>by cases h),(fun k k' o o' b r r' h=>by cases h),(fun k b r _ h=>by cases h),(fun k h=>absurd h (Nat.not_lt_zero k)),(fun k x h=>by cases h)⟩;have ak1:jk (fun _=>none) args args:=⟨rfl,fun a c j ha hc=>by rw [ha] at hc;cases hc;exact dF _ 3 a (kC hg ha)⟩;have:=(pK (I:=acH) (lo:=⟨0,0⟩) (w0:=⟨w,fun _=>none⟩) hm H (K:=none) (fun h e=>by cases e) n).2 f args (st0 0) (.ret v) s' hr (fun _=>none) (fun _=>none) w args hR (fun k hk=>rfl) (fun k _ _=>rfl) ak1;refine this.mono fun e w' ⟨E,_,he,xF⟩=>?_
  cases e with
  |returned v'=>exact⟨v,v',E,h,rfl,he,xF.below⟩
  |panicked c=>exact he.elim
  |outgrown=>exact he.elim
 ·cases h
end
end Go.Am
