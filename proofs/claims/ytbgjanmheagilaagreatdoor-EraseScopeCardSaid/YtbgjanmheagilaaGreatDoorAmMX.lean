/- A part of the proof. Conditions: none. -/
import Derived.RangeFuncNested
import Derived.Test.YtbgjanmheagilaaGreatDoorZz
import Derived.Test.YtbgjanmheagilaaGreatDoorAmHX
import Derived.LoopNIn
import Derived.DefersIn
import Derived.OrdersIn
set_option linter.unusedVariables false
set_option linter.unusedSimpArgs false
set_option maxRecDepth 100000
set_option maxHeartbeats 8000000
namespace Go.Am
open Go Go.RowKit
variable {μ:Type} {I:gT μ} {P:Program} {lo:dP} {w0:Bs} {E:Env} {H:(Nat→Option Obj)→Prop}
structure Hk where
 X:FuncId→Bool
 Z:FuncId→List Value→Option Value
 L:FuncId→List Value→Option Value
structure Plain (P:Program) (h:Hk) (W0:World):Prop where
 x : ∀ f, h.X f = true → ∃ fn, P.funcs[f]? = some fn ∧ (fn.name == "runtime.NumGoroutine") = false ∧ fn.body.isNone = false
 z:∀f vs v,h.Z f vs=some v→vs.all (eu 3)=true∧eu 3 v=true∧∀w,(callFunc f vs.toArray).run P w=.ok (.value v) w
 l:∀f vs v,h.L f vs=some v→vs.all (eu 3)=true∧eu 3 v=true∧∀w,Below W0.heap.size W0 w→Calls P f vs.toArray w fun e w'=>e=.returned v∧Below w.heap.size w w'
theorem fQ.eu {as cs:Array Value} (h:fQ E as cs) (hg:as.toList.all (eu 3)=true):cs=as:=
 VR.L8 (E:=E) h.1 hg fun a c j ha hc hga=>ot (h.2 a c j ha hc) 3 hga
def vQ (P:Program) (lo:dP) (ev:Ev) (o:Oper) (b:Builtin) (args:Array Operand) (ts:Array TypeId):M I bB:=
 match b,args,ts with
 | .append,⟨[s,x]⟩,⟨[st,xt]⟩=>arg ev s>>=fun sv=>arg ev x>>=fun xv=>iP (Ay P lo st xt sv xv)
 | .copy,⟨[d,x]⟩,⟨[dt,_]⟩=>arg ev d>>=fun dv=>arg ev x>>=fun xv=>iP (Kj P lo dt dv xv)
 | .len,⟨[x]⟩,⟨[t]⟩=>arg ev x>>=fun xv=>iP (Xz P t xv)
 | .cap,⟨[x]⟩,⟨[t]⟩=>arg ev x>>=fun xv=>iP (XA P t xv)
 | .recover,_,_=>pure .recover
 | .append,_,_| .copy,_,_| .len,_,_| .cap,_,_| .clear,_,_| .close,_,_| .delete,_,_| .panic,_,_| .print,_,_| .println,_,_=>fail
 |_,_,_=>mD P ev o
def eX (ps:List Tmp) (vs:List Value) (ts:Array Value):Array Value:=(ps.zip vs).foldl (fun t (i,v)=>t.setIfInBounds i v) ts
theorem OY (ps:Array Tmp) (vs:Array Value) (ts:Array Value):(ps.zip vs).foldl (fun tmps (t,a)=>tmps.setIfInBounds t a) ts=eX ps.toList vs.toList ts:=by
 unfold eX;rw [←Array.foldl_toList,Array.toList_zip]
theorem nV:∀(ps:List Tmp) (vs cs:List Value) (ts ts':Array Value),fQ E ts ts'→LR E vs cs→fQ E (eX ps vs ts) (eX ps cs ts')
 |[],vs,cs,ts,ts',h,hv=>by simpa [eX] using h
 |p::ps,[],cs,ts,ts',h,hv=>by
  have:cs=[]:=List.eq_nil_of_length_eq_zero hv.1.symm;subst this;simpa [eX] using h
 |p::ps,v::vs,[],ts,ts',h,hv=>by have:=hv.1;simp at this
 |p::ps,v::vs,c::cs,ts,ts',h,hv=>by
  have h1:fQ E (ts.setIfInBounds p v) (ts'.setIfInBounds p c):=by
   refine⟨by simpa using h.1,fun a b j ha hb=>?_⟩;rw [Array.getElem?_setIfInBounds] at ha hb;by_cases e:p=j
   ·subst e;rw [if_pos rfl] at ha hb;split at ha<;>split at hb<;>first|(cases ha;cases hb;exact hv.2 v c 0 rfl rfl)|(cases ha;done)|(cases hb;done)
   ·rw [if_neg e] at ha hb;exact h.2 a b j ha hb
  have h2:LR E vs cs:=⟨by have:=hv.1;simpa using this,fun a b j ha hb=>hv.2 a b (j+1) jd (by simpa using hb)⟩;exact nV ps vs cs _ _ h1 h2
def OZ (k:Nat) (vs:List Value):M I bB:=rd k>>=fun o=>match o with
 | .loop r=>bif Nat.beq vs.length r.params.size then pure (.round k (eX r.params.toList vs r.tmps) r.assign r.body) else fail
 |_=>fail
def O0 (X:Hk) (ev:Ev) (fv:Operand) (args:Array Operand):M I bB:=match ev fv,evs ev args.toList with
 |some (.func (.func f) first cap),some vs=>bif X.X f then pure (.call f (first++vs.toArray++cap)) else match X.Z f (first++vs.toArray++cap).toList with
  |some v=>pure (.val v)
  |none=>fail
 |some (.func (.yield k) _ _),some vs=>OZ k vs
 |_,_=>fail
def vP (ev:Ev) (fv:Operand) (args:Array Operand):M I bB:=match ev fv,evs ev args.toList with
 |some (.func (.func f) first cap),some vs=>pure (.defer {target:=.fn (.func f) cap,args:=first++vs.toArray})
 |_,_=>fail
def isStr (P:Program) (t:TypeId):Bool:=match P.underlying t with
 |some .string=>true
 |_=>false
def yB (x:Value):M I Value:=match x with
 | .pointer (some _)=>pure x
 | .iface _ _=>pure x
 | .func (.func _) _ _=>pure x
 |_=>fail
def vR (x:Value) (i:Nat):M I Value:=match x with
 | .tuple vs=>match vs[i]? with
  |some v=>pure v
  |none=>fail
 |_=>fail
def O1 (c a b:Value):M I Value:=match c with
 | .bool true=>pure a
 | .bool false=>pure b
 |_=>fail
def qY:IntKind→IntKind→Bool
 | .i8,.i8| .i16,.i16| .i32,.i32| .i64,.i64| .u8,.u8| .u16,.u16| .u32,.u32| .u64,.u64=>true
 |_,_=>false
theorem nD {j k:IntKind} (h:qY j k=true):j=k:=by cases j<;>cases k<;>first|rfl|(simp [qY] at h)
def GM (op:BinOp) (k:IntKind) (a b:Int):Option Value:=match op with
 | .add=>some (.int k (k.wrap (a+b)))
 | .sub=>some (.int k (k.wrap (a - b)))
 | .mul=>some (.int k (k.wrap (a*b)))
 | .eql=>some (.bool (a==b))
 | .neq=>some (.bool (a !=b))
 | .lss=>some (.bool (decide (a<b)))
 | .leq=>some (.bool (decide (a≤b)))
 | .gtr=>some (.bool (decide (a>b)))
 | .geq=>some (.bool (decide (a≥b)))
 |_=>none
def tL (op:BinOp) (x y:Value):Option Value:=match x,y with
 | .int k a,.int k' b=>bif qY k k' then GM op k a b else none
 |_,_=>none
theorem sJ {op:BinOp} {t:TypeId} {X Y:Operand} {x y v:Value} (h:tL op x y=some v) (w:World):(do eqGuard op t X Y x y;binOp op t x y:Sem Value).run P w=.ok v w∧eu 0 v=true:=by
 unfold tL at h;split at h
 ·rename_i k a k' b;cases hk:qY k k' with
  |false=>rw [hk] at h;cases h
  |true=>
   rw [hk] at h;have:=nD hk;subst this;simp only [cond_true] at h;unfold GM at h;split at h<;>cases h<;>exact⟨by simp [eqGuard,binOp,Op.intArith,Op.intCmp],rfl⟩
 ·cases h
def O2 (P:Program) (op:BinOp) (t:TypeId) (x y:Value):M I bB:=match op with
 | .eql=>match pE P t x y with
  |some b=>pure (.val (.bool b))
  |none=>fail
 | .neq=>match pE P t x y with
  |some b=>pure (.val (.bool (!b)))
  |none=>fail
 |_=>fail
def aap (P:Program) (ev:Ev) (o:Oper) (op:BinOp) (t:TypeId) (x y:Value):M I bB:=match tL op x y with
 |some v=>pure (.val v)
 |none=>bif eu 3 x && eu 3 y then mD P ev o else O2 P op t x y
def GN (P:Program) (s d:TypeId) (x:Value):Option Value:=match x with
 | .int _ n=>match P.underlying s,P.underlying d with
  |some _,some (.int k)=>some (.int k (k.wrap n))
  |_,_=>none
 |_=>none
def Xd (P:Program) (ev:Ev) (o:Oper) (s d:TypeId) (x:Value):M I bB:=bif eu 3 x then mD P ev o else iP (Yb P s d x)
def Xe (P:Program) (ev:Ev) (o:Oper) (s d:TypeId) (x:Value):M I bB:=match GN P s d x with
 |some v=>pure (.val v)
 |none=>Xd P ev o s d x
def s1 (ev:Ev) (x:Operand) (f:Value→M I Value):M I bB:=arg ev x>>=fun v=>iP (f v)
def s2 (ev:Ev) (x y:Operand) (f:Value→Value→M I Value):M I bB:=arg ev x>>=fun v=>arg ev y>>=fun u=>iP (f v u)
def adX (ev:Ev) (c a b:Operand):M I bB:=arg ev c>>=fun cv=>arg ev a>>=fun av=>arg ev b>>=fun bv=>iP (O1 cv av bv)
def O3 (P:Program) (ev:Ev) (t:TypeId) (ps:Array (Nat × Operand)):M I bB:=match Iw ev ps.toList with
 |some vs=>iP (Fh P t vs)
 |none=>fail
def sK (P:Program) (ev:Ev) (t:TypeId) (n:Nat) (ps:Array (Nat × Operand)):M I bB:=match Iw ev ps.toList with
 |some vs=>iP (mV P t n vs)
 |none=>fail
def aaq (P:Program) (lo:dP) (ev:Ev) (t:TypeId) (a x:Operand):M I bB:=arg ev a>>=fun v=>arg ev x>>=fun xv=>LH (Fi P lo t v xv)
def ahf (P:Program) (ev:Ev) (o:Oper) (op:BinOp) (t:TypeId) (x y:Operand):M I bB:=arg ev x>>=fun xv=>arg ev y>>=fun yv=>aap P ev o op t xv yv
def adY (P:Program) (ev:Ev) (o:Oper) (s d:TypeId) (x:Operand):M I bB:=arg ev x>>=fun v=>Xe P ev o s d v
def Xf (ev:Ev) (f:FuncId) (first cap:Array Operand):M I bB:=match evs ev first.toList,evs ev cap.toList with
 |some fs,some cs=>pure (.val (.func (.func f) fs.toArray cs.toArray))
 |_,_=>fail
def O4 (P:Program) (ev:Ev) (o:Oper) (t:TypeId) (x:Operand) (l h m:Option Operand):M I bB:=bif isStr P t then mD P ev o else arg ev x>>=fun v=>match evo ev l,evo ev h,evo ev m with
 |some lv,some hv,some mv=>iP (D5 P t v lv hv mv)
 |_,_,_=>fail
def O5 (P:Program) (ev:Ev) (o:Oper) (t:TypeId) (x i:Operand):M I bB:=bif isStr P t then mD P ev o else s2 ev x i (D3 P t)
def TY (P:Program) (lo:dP) (ev:Ev) (t:TypeId) (m k x:Operand):M I bB:=arg ev m>>=fun mv=>arg ev k>>=fun kv=>arg ev x>>=fun xv=>LH (zh P lo t mv kv xv)
def adZ (P:Program) (X:Hk) (lo:dP) (ev:Ev) (o:Oper) (c:Call):M I bB:=match c.callee with
 | .value f=>O0 X ev f c.args
 | .builtin b=>vQ P lo ev o b c.args c.argTypes
 | .invoke _ _=>fail
def Ff (ev:Ev) (c:Call):M I bB:=match c.callee with
 | .value f=>vP ev f c.args
 |_=>fail
def ahg (v:Value):M I Value:=pure v
def fY (P:Program) (X:Hk) (lo:dP) (ev:Ev) (o:Oper):M I bB:=match o.op with
 | .move x| .assign x=>s1 ev x ahg
 | .pick c a b=>adX ev c a b
 | .alloc t=>iP (Fj P t)
 | .box t x=>s1 ev x (ad0 t)
 | .build t ps=>O3 P ev t ps
 | .buildSlice t n ps=>sK P ev t n ps
 | .load t a=>s1 ev a (BG P t)
 | .store t a x=>aaq P lo ev t a x
 | .nilCheck x=>s1 ev x yB
 | .binOp op t x y _=>ahf P ev o op t x y
 | .unOp _ _ _=>mD P ev o
 | .convert s d x=>adY P ev o s d x
 | .makeInterface t x=>s1 ev x (zk P t)
 | .makeFunc (.func f) first cap=>Xf ev f first cap
 | .makeMap _ none=>iP CU
 | .makeSlice t l c=>s2 ev l c (oV P t)
 | .slice t x l h m=>O4 P ev o t x l h m
 | .fieldAddr t x f=>s1 ev x (fun v=>oy P t v f)
 | .field t x f=>s1 ev x (fun v=>D1 P t v f)
 | .indexAddr t x i=>s2 ev x i (oz P t)
 | .index t x i=>O5 P ev o t x i
 | .lookup t x i ok=>s2 ev x i (fun v iv=>zg P t v iv ok)
 | .mapUpdate t m k x| .insert t m k x=>TY P lo ev t m k x
 | .range t x=>s1 ev x (DU P t)
 | .next it iX=>s1 ev it (fun v=>Ks lo v iX)
 | .typeAssert x _ t ok=>s1 ev x (fun v=>zl P v t ok)
 | .extract t i=>s1 ev t (fun v=>vR v i)
 | .call c=>adZ P X lo ev o c
 | .defer c=>Ff ev c
 |_=>fail
theorem fQ.append {as bs cs ds:Array Value} (h:fQ E as cs) (k:fQ E bs ds):fQ E (as++bs) (cs++ds):=by
 have:=(h.lst.append k.lst).arr;have e:∀x y:Array Value,(x.toList++y.toList).toArray=x++y:=fun x y=>by apply Array.toList_inj.1;simp
 rwa [e,e] at this
theorem Jn {X:Hk} (hX:Plain P X w0.w) {ev:Ev} {ρ:Operand→Value} (hρ:∀x v,ev x=some v→VR E v (ρ x)) {fv:Operand} {args:Array Operand} {ts:Array TypeId} {ty:TypeId}:
  au P lo w0 E H (O0 X ev fv args:M I bB) (do let d←resolve ρ {callee:=.value fv,args:=args,argTypes:=ts} ty;invoke d.target d.args) NR:=by
 unfold O0;split
 ·rename_i f first cap vs hf wJ
  cases hx:X.X f with
  |false=>
   simp only [cond_false];split
   ·rename_i v hz;obtain⟨z1,z2,z3⟩:=hX.z f _ v hz;have hr:=hρ _ _ hf;have ha:=nA hρ wJ;generalize hq:ρ fv=q at hr;cases hr with
    | @func _ _ _ cs ds g1 g2 g3 g4=>
     have hA:=(fQ.append (fQ.append ⟨g1,g2⟩ ha) ⟨g3,g4⟩);have he:=hA.eu (by simpa using z1);refine au.leaf (a:=bB.val v) (R:=NR) fun E1 g w hE _ _=>⟨.value v, ?_,bT E1 3 v z2⟩
     have:=z3 w;rw [show(first++vs.toArray++cap).toList.toArray=first++vs.toArray++cap by simp,←he] at this;simp [resolve,hq,Deferred.ofValue,invoke];simpa using this
   ·exact au.fail
  |true=>
   simp only [cond_true];obtain⟨fn,h1,h2,h3⟩:=hX.x f hx;have hr:=hρ _ _ hf;have ha:=nA hρ wJ;generalize hq:ρ fv=q at hr;cases hr with
   | @func _ _ _ cs ds g1 g2 g3 g4=>
    refine au.leaf fun E1 g w hE _ _=>⟨.enter f (cs++args.map ρ++ds), ?_,rfl,((fQ.append (fQ.append ⟨g1,g2⟩ ha) ⟨g3,g4⟩)).mono hE⟩
    have h3':fn.body≠none:=fun e=>by rw [e] at h3;cases h3
    have h2' : ¬ fn.name = "runtime.NumGoroutine" := lS;simp [resolve, hq, Deferred.ofValue, invoke, callFunc, h1, h2', h3']
 ·rename_i k x1 x2 vs hf wJ;have hr:=hρ _ _ hf;have ha:=nA hρ wJ;generalize hq:ρ fv=q at hr;cases hr with
  | @yield _ b q hE0=>
   unfold OZ;refine au.rd fun ob=>?_
   cases ob with
   |loop r=>
    simp only;cases hb:Nat.beq vs.length r.params.size with
    |false=>simp only [cond_false];exact au.fail
    |true=>
     simp only [cond_true];have hlen:=Nat.eq_of_beq_eq_true hb;refine au.leaf fun E1 g w hE hR ⟨_,hg⟩=>?_
     obtain⟨b',r',co,h1,h2,h3⟩:=hR.tie _ _ hg;have hk:=hE _ _ hE0;rw [hk] at h1;cases h1;cases h3 with
     | @loop _ y q' g1 g2 g3 g4 g5 g6 g7 g8=>
      refine⟨.round b y.fn (eX y.params.toList (args.map ρ).toList y.tmps) y.assign y.body, ?_,g4,g5,⟨_,hk⟩, ?_⟩
      ·have hsz:(args.map ρ).size=y.params.size:=by
        rw [g3,←hlen];have:=ha.1;simpa using this.symm
       have hy:=run_yield (P:=P) h2 hsz;rw [OY] at hy;simp only [resolve,hq,Deferred.ofValue,invoke,Sem.run_bind,Sem.run_pure,Result.andThen_ok,Array.empty_append,Array.append_empty];exact hy
      ·rw [g3];exact nV _ _ _ _ _ ⟨g6,g7⟩ ((ha.mono hE).lst)
   |_=>exact au.fail
 ·exact au.fail
theorem Fk {ev:Ev} {ρ:Operand→Value} (hρ:∀x v,ev x=some v→VR E v (ρ x)) {fv:Operand} {args:Array Operand} {ts:Array TypeId} {ty:TypeId}:
  au P lo w0 E H (vP ev fv args:M I bB) (do pure (.defer (←resolve ρ {callee:=.value fv,args:=args,argTypes:=ts} ty)):Sem Next) NR:=by
 unfold vP;split
 ·rename_i f first cap vs hf wJ
  have hr:=hρ _ _ hf;have ha:=nA hρ wJ;generalize hq:ρ fv=q at hr;cases hr with
  | @func _ _ _ cs ds g1 g2 g3 g4=>
   refine au.leaf fun E1 g w hE _ _=>⟨.defer {target:=.fn (.func f) ds,args:=cs++args.map ρ}, ?_,.inl ⟨f,_,_,rfl,rfl,fQ.mono hE ⟨g3,g4⟩,(fQ.append ⟨g1,g2⟩ ha).mono hE⟩⟩
   simp [resolve,hq,Deferred.ofValue]
 ·exact au.fail
theorem Az {ev:Ev} {ρ:Operand→Value} (hρ:∀x v,ev x=some v→VR E v (ρ x)) {o:Oper} {b:Builtin} {args:Array Operand} {ts:Array TypeId} (ho:o.op=.call {callee:=.builtin b,args:=args,argTypes:=ts}):
  au P lo w0 E P6 (vQ P lo ev o b args ts:M I bB) (execOp ρ o) NR:=by
 have hs:∀cs b,o.op≠ .select cs b:=fun cs b e=>by rw [ho] at e;cases e
 have he:∀(c:Sem Next),(∀w,(builtin b ts o.type (args.map fun| .const _=>true|_=>false) (args.map ρ)).run P w=c.run P w)→∀w,(execOp ρ o).run P w=c.run P w:=fun c hc w=>by
  rw [←hc w];unfold execOp;rw [ho];simp [resolve,invoke];rfl
 unfold vQ;split
 ·rename_i s x st xt;refine au.arg hρ fun sv EA=>au.arg hρ fun xv hxv=>au.pG (he (do pure (.value (←Builtin.append_ #[st,xt] o.type #[ρ s,ρ x]))) fun w=>?_) (aU (CV EA hxv))
  simp [builtin]
 ·rename_i s x st xt;refine au.arg hρ fun sv EA=>au.arg hρ fun xv hxv=>au.pG (he (do pure (.value (←Builtin.copy_ #[st,xt] o.type #[ρ s,ρ x]))) fun w=>?_) (aU (Hg EA hxv))
  simp [builtin]
 ·rename_i x t;refine au.arg hρ fun xv hxv=>au.pG (he (do pure (.value (←Builtin.len_ #[t] o.type #[ρ x]))) fun w=>?_) (aU (Kn rfl hxv))
  simp [builtin]
 ·rename_i x t;refine au.arg hρ fun xv hxv=>au.pG (he (do pure (.value (←Builtin.cap_ #[t] o.type #[ρ x]))) fun w=>?_) (aU (Kq rfl hxv))
  simp [builtin]
 ·refine au.pG (he (pure .recover) fun w=>rfl) (au.pure fun E1 hE=>trivial)
 all_goals first|exact au.fail|exact fX hρ hs
theorem AA {x x':Value} {i:Nat} (hx:VR E x x'):au P lo w0 E H (vR x i:M I Value) (Instr.extract x' i) VR:=by
 unfold vR;split
 ·rename_i vs;cases hx with
  |tuple h1 h2=>
   cases hv:vs[i]? with
   |none=>simp only [hv];exact au.fail
   |some v=>
    simp only [hv];rename_i cs;have hi:i<cs.size:=by have:=(Array.getElem?_eq_some_iff.1 hv).1;omega
    exact au.val ⟨cs[i],fun w=>by simp [Instr.extract,hi],h2 v _ i hv (by simp [hi])⟩
 ·exact au.fail
theorem Jo {c a b c' a' b':Value} (hc:VR E c c') (ha:VR E a a') (hb:VR E b b'):au P lo w0 E H (O1 c a b:M I Value) (do pure (if←asBool c' then a' else b'):Sem Value) VR:=by
 unfold O1;split
 ·cases hc;exact au.val ⟨a',fun w=>by simp [asBool],ha⟩
 ·cases hc;exact au.val ⟨b',fun w=>by simp [asBool],hb⟩
 ·exact au.fail
theorem O6 {ev:Ev} {ρ:Operand→Value} (hρ:∀x v,ev x=some v→VR E v (ρ x)) {o:Oper} {op:BinOp} {t yt:TypeId} {x y:Operand} (ho:o.op=.binOp op t x y yt) {xv yv:Value} (hx:VR E xv (ρ x)) (hy:VR E yv (ρ y)):
  au P lo w0 E H (aap P ev o op t xv yv:M I bB) (execOp ρ o) NR:=by
 have hs:∀cs b,o.op≠ .select cs b:=fun cs b e=>by rw [ho] at e;cases e
 have he:∀(v:Value) (w:World),(do eqGuard op t x y (ρ x) (ρ y);binOp op t (ρ x) (ρ y):Sem Value).run P w=.ok v w→(execOp ρ o).run P w=.ok (.value v) w:=fun v w h=>by
  unfold execOp;rw [ho];simp only [Sem.run_bind] at h ⊢;rw [h];rfl
 unfold aap;split
 ·rename_i v hf;have h1:xv=ρ x∧yv=ρ y:=by
   unfold tL at hf;split at hf
   ·constructor
    ·generalize ρ x=q at hx;cases hx;rfl
    ·generalize ρ y=q at hy;cases hy;rfl
   ·cases hf
  rw [h1.1,h1.2] at hf;exact au.leaf (a:=bB.val v) (R:=NR) fun E1 g w hE _ _=>⟨_,he v w (sJ (X:=x) (Y:=y) hf w).1,bT E1 0 v (sJ (P:=P) (t:=t) (X:=x) (Y:=y) hf w).2⟩
 ·cases hg:(eu 3 xv && eu 3 yv) with
  |true=>exact fX hρ hs
  |false=>
   simp only [cond_false];unfold O2;split
   ·split
    ·rename_i b hb;exact au.leaf fun E1 g w hE _ _=>⟨_,he _ w (xh hb hx hy x y w).1,.bool b⟩
    ·exact au.fail
   ·split
    ·rename_i b hb;exact au.leaf fun E1 g w hE _ _=>⟨_,he _ w (xh hb hx hy x y w).2,.bool _⟩
    ·exact au.fail
   ·exact au.fail
theorem mW {v:Value} {c:Sem Next} (h:∃v',(∀w,c.run P w=.ok (.value v') w)∧VR E v v'):au P lo w0 E H (iP (pure v):M I bB) c NR:=by
 obtain⟨v',h1,h2⟩:=h;exact au.congr (m':=pure (.val v)) rfl (au.leaf (a:=bB.val v) (R:=NR) fun E1 g w hE _ _=>⟨.value v',h1 w,h2.mono hE⟩)
theorem oJ {X:Hk} (hX:Plain P X w0.w) {ev:Ev} {ρ:Operand→Value} (hρ:∀x v,ev x=some v→VR E v (ρ x)) (o:Oper):
  au P lo w0 E P6 (fY P X lo ev o:M I bB) (execOp ρ o) NR:=by
 obtain⟨dst,op,type,pos,after,guard⟩:=o;cases op with
 |move x=>exact au.arg hρ fun v hv=>mW ⟨_,fun w=>rfl,hv⟩
 |assign x=>exact au.arg hρ fun v hv=>mW ⟨_,fun w=>rfl,hv⟩
 |pick c a b=>
  refine au.arg hρ fun cv hc=>au.arg hρ fun av ha=>au.arg hρ fun bv hb=>au.pG (fun w=>?_) (aU (Jo hc ha hb))
  simp [execOp]
 |alloc t=>exact aU Fl
 |box t x=>exact au.arg hρ fun v hv=>aU (O7 hv)
 |build t ps=>
  unfold fY O3;simp only;split
  ·rename_i vs wJ;refine aU (Fm ?_);have:=uN hρ _ _ wJ
   rwa [←Array.toList_map] at this
  ·exact au.fail
 |buildSlice t n ps=>
  unfold fY sK;simp only;split
  ·rename_i vs wJ;refine aU (tA ?_);have:=uN hρ _ _ wJ
   rwa [←Array.toList_map] at this
  ·exact au.fail
 |insert t m k x=>exact au.arg hρ fun mv hm=>au.arg hρ fun kv hk=>au.arg hρ fun xv hx=>qQ (rR hm hk hx)
 |load t a=>exact au.arg hρ fun v hv=>aU (Jp hv)
 |store t a x=>exact au.arg hρ fun v hv=>au.arg hρ fun xv hx=>qQ (Fo hv hx)
 |nilCheck x=>
  refine au.arg hρ fun v hv=>?_
  generalize hq:ρ x=q at hv;unfold yB;split
  ·cases hv with
   |ptr h=>exact mW ⟨_,fun w=>by simp [execOp,hq],.ptr h⟩
  ·cases hv with
   |iface _ h=>exact mW ⟨_,fun w=>by simp [execOp,hq],.iface _ h⟩
  ·cases hv with
   |func h1 h2 h3 h4=>exact mW ⟨_,fun w=>by simp [execOp,hq],.func h1 h2 h3 h4⟩
  ·exact fun s a s' hr=>by obtain⟨a1,s1,h1,h2⟩:=ax hr;exact(aB h1).elim
 |binOp op t x y yt=>exact au.arg hρ fun xv hx=>au.arg hρ fun yv hy=>O6 hρ rfl hx hy
 |unOp op t x=>exact fX hρ (fun cs b e=>by cases e)
 |convert s d x=>
  refine au.arg hρ fun v hv=>?_
  unfold Xe;split
  ·rename_i u hu;unfold GN at hu;split at hu
   ·rename_i k n;split at hu
    ·rename_i sd k' h1 h2;cases hu;generalize hq:ρ x=q at hv;cases hv;refine au.leaf (a:=bB.val (.int k' (k'.wrap n))) (R:=NR) fun E1 g w hE _ _=>⟨.value (.int k' (k'.wrap n)), ?_,.int _ _⟩
     simp [execOp,hq,convert,run_underlying h1,run_underlying h2,Conv.intToInt]
    ·cases hu
   ·cases hu
  ·unfold Xd;cases hg:eu 3 v with
   |true=>exact fX hρ (fun cs b e=>by cases e)
   |false=>exact aU (LI hv)
 |makeInterface t x=>exact au.arg hρ fun v hv=>aU (Bo hv)
 |makeFunc fn first cap=>
  cases fn with
  |func f=>
   unfold fY Xf;simp only;split
   ·rename_i fs cs hf hc;have h1:=nA hρ hf;have h2:=nA hρ hc;exact au.leaf fun E1 g w hE _ _=>⟨.value (.func (.func f) (first.map ρ) (cap.map ρ)),by simp [execOp,Instr.makeFunc],.func h1.1 (h1.mono hE).2 h2.1 (h2.mono hE).2⟩
   ·exact au.fail
  |_=>exact au.fail
 |makeMap t r=>
  cases r with
  |none=>exact aU (AD fun w=>rfl)
  |some r=>exact au.fail
 |makeSlice t l c=>exact au.arg hρ fun lv hl=>au.arg hρ fun cv hc=>aU (vS hl hc)
 |slice t x l h m=>
  unfold fY O4;simp only;cases hs:isStr P t with
  |true=>exact fX hρ (fun cs b e=>by cases e)
  |false=>
   refine au.arg hρ fun v hv=>?_
   split
   ·rename_i lv hv' mv h1 h2 h3;exact aU (D6 hv (zQ hρ h1) (zQ hρ h2) (zQ hρ h3))
   ·exact au.fail
 |fieldAddr t x f=>exact au.arg hρ fun v hv=>aU (ug hv)
 |field t x f=>exact au.arg hρ fun v hv=>aU (D2 hv)
 |indexAddr t x i=>exact au.arg hρ fun v hv=>au.arg hρ fun iv hi=>aU (uh hv hi)
 |index t x i=>
  unfold fY O5;simp only;cases hs:isStr P t with
  |true=>exact fX hρ (fun cs b e=>by cases e)
  |false=>exact au.arg hρ fun v hv=>au.arg hρ fun iv hi=>aU (D4 hv hi)
 |lookup t x i ok=>exact au.arg hρ fun v hv=>au.arg hρ fun iv hi=>aU (Bi hv hi)
 |mapUpdate t m k x=>exact au.arg hρ fun mv hm=>au.arg hρ fun kv hk=>au.arg hρ fun xv hx=>qQ (rR hm hk hx)
 |range t x=>exact au.arg hρ fun v hv=>aU (DV hv)
 |next it iX=>exact au.arg hρ fun v hv=>aU (Ho hv)
 |typeAssert x xT t ok=>exact au.arg hρ fun v hv=>aU (Bp hv)
 |extract t i=>exact au.arg hρ fun v hv=>aU (AA hv)
 |call c=>
  obtain⟨callee,args,ts⟩:=c;cases callee with
  |value f=>exact Jn hX hρ
  |builtin b=>exact Az hρ rfl
  |invoke r m=>exact au.fail
 |defer c=>
  obtain⟨callee,args,ts⟩:=c;cases callee with
  |value f=>exact Fk hρ
  |builtin b=>exact au.fail
  |invoke r m=>exact au.fail
 |_=>exact au.fail
end Go.Am
/- A part of the proof. Conditions: none. -/
set_option maxRecDepth 100000
set_option maxHeartbeats 8000000
namespace Go.Am
open Go Go.RowKit
noncomputable section
variable {μ:Type} {I:gT μ} {P:Program} {lo:dP} {w0:Bs} {E:Env} {H:(Nat→Option Obj)→Prop}
structure aD where
 n:Nat
 t:Trie Value
 defers:List Deferred
def aD.val (a:aD) (i:Nat):Value:=(a.t.get i).getD undef
def zA (lo:dP) (a:aD):Ev
 | .tmp i=>some (a.val i)
 | .const v=>bif eu 3 v then some v else none
 | .global g=>bif Nat.blt g lo.G then some (.pointer (some ⟨g,0,none⟩)) else none
 | .func f=>some (.func (.func f) #[] #[])
def iQ (a:aD) (dst:Option Tmp) (v:Value):M I aD:=match dst with
 |none=>pure a
 |some d=>bif Nat.blt d a.n && Nat.blt d 4095 then pure ⟨a.n,a.t.set 12 d (some v),a.defers⟩ else fail
structure kH (E:Env) (a:aD) (ca:Act):Prop where
 size:ca.tmps.size=a.n
 val:∀i,VR E (a.val i) (ca.tmps.getD i undef)
 len:a.defers.length=ca.defers.length
 defers:∀(j:Nat) (d d':Deferred),a.defers[j]?=some d→ca.defers[j]?=some d'→DR E d d'
theorem DR.mono {E E':Env} (hE:∀k x,E k=some x→E' k=some x) {d d':Deferred} (h:DR E d d'):DR E' d d':=by
 rcases h with⟨f,c,c',h1,h2,h3,h4⟩|⟨k,b,q,h1,h2,h3⟩
 ·exact .inl ⟨f,c,c',h1,h2,h3.mono hE,h4.mono hE⟩
 ·exact .inr ⟨k,b,q,h1,h2,hE _ _ h3⟩
theorem kH.mono {E E':Env} (hE:∀k x,E k=some x→E' k=some x) {a:aD} {ca:Act} (h:kH E a ca):kH E' a ca:=
 ⟨h.size,fun i=>(h.val i).mono hE,h.len,fun j d d' h1 h2=>(h.defers j d d' h1 h2).mono hE⟩
theorem kH.ev {a:aD} {ca:Act} (h:kH E a ca) (hold:∀k,k<lo.G→E k=some (k,0)):∀x v,zA lo a x=some v→VR E v (ca.eval x):=by
 intro x v hv;cases x with
 |tmp i=>simp [zA] at hv;subst hv;exact h.val i
 |const u=>
  exact NT
 |global g=>
  exact NA
 |func f=>simp [zA] at hv;subst hv;exact .func rfl (fun _ _ j h=>by simp at h) rfl (fun _ _ j h=>by simp at h)
theorem kH.put {a a':aD} {ca:Act} {dst:Option Tmp} {v v':Value} {s s':St μ} (h:kH E a ca) (hv:VR E v v') (hr:(iQ a dst v:M I aD).run s=some (a',s')):s'=s∧kH E a' (ca.put dst v'):=by
 unfold iQ at hr;cases dst with
 |none=>obtain⟨rfl,rfl⟩:=pure_run hr;exact⟨rfl,h⟩
 |some d=>
  cases hb:(Nat.blt d a.n && Nat.blt d 4095) with
  |false=>simp only [hb] at hr;exact(aB hr).elim
  |true=>
   simp only [hb] at hr;obtain⟨rfl,rfl⟩:=pure_run hr;rw [blt_eq,blt_eq] at hb;simp only [Bool.and_eq_true,decide_eq_true_eq] at hb;refine⟨rfl,⟨by simp [Act.put,h.size],fun i=>?_,h.len,h.defers⟩⟩;have hval:aD.val ⟨a.n,a.t.set 12 d (some v),a.defers⟩ i=if i=d then v else a.val i:=by
    unfold aD.val;rw [Trie.tC 12 a.t d i (some v) aa];split<;>rfl
   rw [hval];by_cases e:i=d
   ·subst e;have hlt:i<ca.tmps.size:=by rw [h.size];exact hb.1
    simp [Act.put,hlt];exact hv
   ·have:=h.val i;have hne:¬(d=i):=fun h=>e h.symm
    simp [Act.put,e,Array.getElem?_setIfInBounds,hne] at this ⊢;exact this
inductive bF where
 |normal
 |exit (id:Nat)
 |ret
 |panic (v:Value)
def zT (E:Env):bF→Exit→Prop
 | .normal,.normal=>True
 | .exit i,.exit j=>i=j
 | .ret,.ret=>True
 | .panic v,.panic c=>∃v',c=[{v:=v',recovered:=false}]∧VR E v v'
 |_,_=>False
inductive jz where
 |ret (v:Value)
 |panic (v:Value)
def EnR (E:Env):jz→Ending→Prop
 | .ret v,.returned v'=>VR E v v'
 | .panic v,.panicked c=>∃v',c=[{v:=v',recovered:=false}]∧VR E v v'
 |_,_=>False
def uR:List Value→Nat→Trie Value→Trie Value
 |[],_,t=>t
 |v::l,i,t=>uR l (i+1) (t.set 12 i (some v))
theorem qV:∀(l:List Value) (i:Nat) (t:Trie Value) (j:Nat),i+l.length≤4094→(uR l i t).get j=if i≤j∧j<i+l.length then l[j - i]? else t.get j
 |[],i,t,j,h=>by simp [uR];intro h1 h2;omega
 |v::l,i,t,j,h=>by
  simp only [uR];rw [qV l (i+1) _ j (by simp at h;omega),Trie.tC 12 t i j (some v) (by simp at h;omega)];simp only [List.length_cons];by_cases e:j=i
  ·subst e;rw [if_neg aa,if_pos rfl,if_pos aa];simp
  ·rw [if_neg e];by_cases e2:i≤j∧j<i+(l.length+1)
   ·rw [if_pos e2,if_pos aa,show j - i=(j - (i+1))+1 by omega];simp
   ·rw [if_neg e2,if_neg aa]
structure Self (I:gT μ) where
 code:Option Nat→Code→aD→M I (bF × aD)
 call:FuncId→Array Value→M I jz
def jW (ops:Array Oper) (a:aD) (j:Nat):Option Bool:=match (ops[j]?).bind (·.dst) with
 |some d=>bif Nat.blt d a.n then match a.val d with
  | .bool b=>some b
  |_=>none
  else none
 |none=>none
def gC (ops:Array Oper) (a:aD) (o:Oper):Bool:=match o.guard with
 |none=>true
 |some (j,want)=>match jW ops a j with
  |some b=>bif want then b else !b
  |none=>false
theorem uS {ops:Array Oper} {a:aD} {ca:Act} (h:kH E a ca) (o:Oper):Region.wanted o (yielded ops ca.tmps)=gC ops a o:=by
 unfold Region.wanted gC;cases hg:o.guard with
 |none=>rfl
 |some jw=>
  obtain⟨j,want⟩:=jw;simp only;have hy:yielded ops ca.tmps j=jW ops a j:=by
   unfold yielded jW;cases hd:(ops[j]?).bind (·.dst) with
   |none=>rfl
   |some d=>
    simp only [Option.bind_some,blt_eq,←h.size];have hv:=h.val d;exact Wh
  exact NX
def yA (a:aD) (o:Oper) (k:aD→M I (bF × aD)) (e:jz):M I (bF × aD):=match e with
 | .ret v=>iQ a o.dst v>>=k
 | .panic v=>pure (.panic v,a)
def OQ (lo:dP) (k:Nat):M I Unit:=rd k>>=fun o=>match o with
 | .loop r=>match r.state with
  | .ready=>wr lo k (some (.loop {r with state:=.busy}))
  |_=>fail
 |_=>fail
def ke (lo:dP) (k:Nat) (jump:Option Code):M I jz:=rd k>>=fun o=>match o with
 | .loop r=>wr lo k (some (.loop {r with state:=if jump.isNone then .ready else .done,pending:=jump}))>>=fun _=>pure (.ret (.bool jump.isNone))
 |_=>fail
def aal (lo:dP) (k:Nat) (r:bF × aD):M I jz:=match r.1 with
 | .normal=>ke lo k none
 | .ret=>ke lo k (some .ret)
 | .exit id=>ke lo k (some (.exit id))
 | .panic _=>fail
def OS (lo:dP) (self:Self I) (k:Nat) (body:Code) (r:bF × aD):M I jz:=match r.1 with
 | .normal=>OQ lo k>>=fun _=>self.code (some k) body r.2>>=aal lo k
 |_=>fail
def Af (lo:dP) (self:Self I) (k:Nat) (ts:Array Value) (assign body:Code):M I jz:=
 bif Nat.blt ts.size 4000 then self.code (some k) assign ⟨ts.size,uR ts.toList 0 .leaf,[]⟩>>=OS lo self k body else fail
def tG (ρ:Option Nat):Bool:=match ρ with
 |none=>true
 |some _=>false
def Av (lo:dP) (ρ:Option Nat) (self:Self I) (a:aD) (o:Oper) (k:aD→M I (bF × aD)) (r:bB):M I (bF × aD):=match r with
 | .val v=>iQ a o.dst v>>=k
 | .call f args=>self.call f args>>=yA a o k
 | .defer d=>bif tG ρ then iQ ⟨a.n,a.t,d::a.defers⟩ o.dst undef>>=k else fail
 | .round l ts b c=>Af lo self l ts b c>>=yA a o k
 |_=>fail
def OT (a:aD) (v:Value):M I (bF × aD):=match v with
 | .iface _ _=>pure (.panic v,a)
 |_=>fail
def OU (lo:dP) (a:aD) (x:Operand):M I (bF × aD):=arg (zA lo a) x>>=OT a
def opB (P:Program) (X:Hk) (lo:dP) (ρ:Option Nat) (self:Self I) (a:aD) (o:Oper) (k:aD→M I (bF × aD)):M I (bF × aD):=match o.op with
 | .panic x=>OU lo a x
 |_=>fY P X lo (zA lo a) o>>=Av lo ρ self a o k
def lY (P:Program) (X:Hk) (lo:dP) (ρ:Option Nat) (self:Self I) (ops:Array Oper):List Oper→aD→M I (bF × aD)
 |[],a=>pure (.normal,a)
 |o::rest,a=>bif gC ops a o then opB P X lo ρ self a o (lY P X lo ρ self ops rest) else iQ a o.dst undef>>=lY P X lo ρ self ops rest
def Fc (k:aD→M I (bF × aD)) (r:bF × aD):M I (bF × aD):=match r with
 |(.normal,a1)=>k a1
 |r=>pure r
def K6 (self:Self I) (ρ:Option Nat) (c:Code):Nat→aD→M I (bF × aD)
 |0,_=>fail
 |m+1,a=>self.code ρ c a>>=Fc (K6 self ρ c m)
def fC (P:Program) (lo:dP) (w0:Bs) (call:FuncId→Array Value→M I jz):Prop:=
 ∀f args s r s',(call f args).run s=some (r,s')→∀E g w dX,Rel P lo w0 E g w→dh I s s' g→eR s s' E→fQ E args dX→
  Calls P f dX w fun e w'=>∃E',Env.Ext E E' s.next s'.next∧EnR E' r e∧Rel P lo w0 E' (merge I s' g) w'
def qW (ρ:Option Nat):Fence:={Fence.wide with round:=ρ}
def OV (E:Env) (ρ ρ':Option Nat):Prop:=match ρ,ρ' with
 |none,none=>True
 |some k,some b=>∃q,E k=some (b,q)
 |_,_=>False
theorem OV.mono {E E':Env} (hE:∀k x,E k=some x→E' k=some x) {ρ ρ':Option Nat} (h:OV E ρ ρ'):OV E' ρ ρ':=by
 cases ρ<;>cases ρ'<;>first|exact h|skip
 obtain⟨q,hq⟩:=h;exact⟨q,hE _ _ hq⟩
def lu (P:Program) (lo:dP) (w0:Bs) (ρ:Option Nat) (m:M I (bF × aD)) (a:aD) (C:Option Nat→(Exit→Act→World→Prop)→Act→World→Prop):Prop:=
 ∀s e a' s',m.run s=some ((e,a'),s')→∀E g w ca Q ρ',OV E ρ ρ'→Rel P lo w0 E g w→dh I s s' g→eR s s' E→kH E a ca→
  (∀E' ce mH w',Env.Ext E E' s.next s'.next→zT E' e ce→kH E' a' mH→Rel P lo w0 E' (merge I s' g) w'→Q ce mH w')→C ρ' Q ca w
def fD (P:Program) (lo:dP) (w0:Bs) (code:Option Nat→Code→aD→M I (bF × aD)):Prop:=
 ∀ρ c a,lu P lo w0 ρ (code ρ c a) a (fun ρ' Q ca w=>c.wpIn (qW ρ') 0 P Q ca w)
theorem iA {ρ':Option Nat} (h:(qW ρ').depth.isSome=true):1≤0:=by simp [qW,Fence.wide] at h
theorem mU {ρ':Option Nat} {f:FuncId} {args:Array Value} {w:World} {R:Ending→World→Prop} (h:Calls P f args w R):CallsIn (qW ρ') (0 - 1) P f args w R:=callsIn_wide.2 h
theorem IC {f:FuncId} {args:Array Value} {w:World} {R:Ending→World→Prop} (h:CallsIn (qW none) 0 P f args w R):Calls P f args w R:=callsIn_wide.1 h
theorem chain {α:Type} {m:M I α} {a:α} {s s1 s':St μ} {g:Nat→Option Obj} {E E1:Env} (h1:m.run s=some (a,s1)) (h2:St.Le I s1 s') (hA:dh I s s' g) (hF:eR s s' E) (hx:Env.Ext E E1 s.next s1.next):
  dh I s1 s' (merge I s1 g)∧eR s1 s' E1∧(∀E',Env.Ext E1 E' s1.next s'.next→Env.Ext E E' s.next s'.next)∧merge I s' (merge I s1 g)=merge I s' g:=
 ⟨hA.second (m.le _ _ _ h1) h2,hF.second hx (m.le _ _ _ h1).next,fun E' h=>hx.trans h (m.le _ _ _ h1).next h2.next,jm g h2⟩
theorem Fe {X:Hk} {ev:Ev} {o:Oper} {r:bB} {s s1:St μ} (h:(fY P X lo ev o:M I bB).run s=some (r,s1)) (hne:∀d,r≠ .defer d) (ρ':Option Nat) (ρv:Operand→Value):Oper.semAt ρ' ρv o=execOp ρv o:=by
 rw [Oper.semAt_eq];intro c hc0;unfold fY at h;rw [hc0] at h;simp only [Ff] at h;split at h
 ·unfold vP at h;split at h
  ·obtain⟨h,_⟩:=pure_run h;exact hne _ h
  ·exact(aB h).elim
 ·exact(aB h).elim
theorem Fg {E:Env} {ts cs:Array Value} (hsz:ts.size<4000) (h:fQ E ts cs):kH E ⟨ts.size,uR ts.toList 0 .leaf,[]⟩ {tmps:=cs,defers:=[]}:=by
 refine⟨h.1.symm,fun i=>?_,rfl,fun j d d' h=>by simp at h⟩;unfold aD.val;simp only;rw [qV ts.toList 0 .leaf i aV];simp only [Nat.zero_le,true_and,Nat.zero_add,Nat.sub_zero,Array.length_toList];by_cases hi:i<ts.size
 ·rw [if_pos hi];have hi':i<cs.size:=by rw [←h.1];exact hi
  have:=h.2 ts[i] cs[i] i (by simp [hi]) (by simp [hi']);simpa [hi,hi'] using this
 ·rw [if_neg hi];have hi':¬i<cs.size:=by rw [←h.1];exact hi
  have:cs.getD i undef=undef:=by simp [hi']
  rw [this];exact VR.undef E
theorem nR {w:World} {b:Nat} {o co:Obj} (h:w.heap[b]?=some o):ue b co w (w.putObj b co):=
 ⟨rfl,rfl,rfl,World.putObj_size,World.putObj_heap_same (Array.getElem?_eq_some_iff.1 h).1,fun i hi=>World.putObj_heap_other hi⟩
theorem tK {E:Env} {g:Nat→Option Obj} {w:World} {k b q:Nat} {r:Loop} (hR:Rel P lo w0 E g w) (hg:g k=some (.loop r)) (hk:E k=some (b,q)):
  ∃y q',w.heap[b]?=some (.loop y)∧y.state=r.state∧y.pending=r.pending∧y.params=r.params∧y.assign=r.assign∧y.body=r.body∧fQ E r.tmps y.tmps∧E r.defers=some (y.defers,q'):=by
 obtain⟨b',r',co,h1,h2,h3⟩:=hR.tie _ _ hg;rw [hk] at h1;cases h1;cases h3 with
 | @loop _ y q' g1 g2 g3 g4 g5 g6 g7 g8=>exact⟨y,q',h2,g1,g2,g3,g4,g5,⟨g6,g7⟩,g8⟩
theorem Aw {k b q:Nat} {r r':Loop} {s s1 s':St μ} {u:Unit} (h1:(rd k:M I Obj).run s=some (.loop r,s1)) (h2:(wr lo k (some (.loop r')):M I Unit).run s1=some (u,s'))
  {E:Env} {g:Nat→Option Obj} {w:World} (hR:Rel P lo w0 E g w) (hA:dh I s s' g) (hk:E k=some (b,q)) {y y':Loop} (hy:w.heap[b]?=some (.loop y)) (ho:∀q,OR P E q (.loop r') (.loop y')):
  s'.next=s.next∧Rel P lo w0 E (merge I s' g) (w.putObj b (.loop y')):=by
 obtain⟨e1,e2,e3,e4,e5⟩:=ow h1;obtain⟨w1,⟨o0,w2⟩,w3,w4,w5,w6⟩:=zi h2;have l1:=(rd (I:=I) k).le _ _ _ h1;have l2:=(wr (I:=I) lo k (some (.loop r'))).le _ _ _ h2;have hm:merge I s1 g=g:=eH (hA.first l2) (fun k=>by rw [e4]) (fun k=>by rw [e3]);have iY:dh I s1 s' g:=by have:=hA.second l1 l2;rwa [hm] at this
 have hg:g k=some (.loop r):=Ma;refine⟨by rw [w3,e2], ?_⟩;rw [gI iY w5 w6];exact hR.write hg hk w1 (nR hy) (ho q)
theorem CT {self:Self I} (kn:fD P lo w0 self.code) {k:Nat} {ts:Array Value} {assign body:Code} {s s':St μ} {r:jz} (hr:(Af lo self k ts assign body).run s=some (r,s'))
  {E:Env} {g:Nat→Option Obj} {w:World} {b q:Nat} {f:FuncId} {cs:Array Value} {ρ':Option Nat} (hR:Rel P lo w0 E g w) (hA:dh I s s' g) (hF:eR s s' E) (hk:E k=some (b,q)) (yS:fQ E ts cs):
  RoundIn (qW ρ') (0 - 1) P b f cs assign body w fun e w'=>∃E',Env.Ext E E' s.next s'.next∧EnR E' r e∧Rel P lo w0 E' (merge I s' g) w':=by
 unfold Af at hr;cases hsz:Nat.blt ts.size 4000 with
 |false=>rw [hsz] at hr;exact(aB hr).elim
 |true=>
  rw [hsz,cond_true] at hr;rw [blt_eq,decide_eq_true_eq] at hsz;obtain⟨⟨e1,a1⟩,s1,h1,h2⟩:=ax hr;have hle:St.Le I s1 s':=M.le _ _ _ _ h2;refine roundIn_of_wpIn (F:=qW ρ') trivial ?_;refine kn (some k) assign _ s e1 a1 s1 h1 E g w _ _ (some b) ⟨q,hk⟩ hR (hA.first hle) (hF.first hle.next) (Fg hsz yS) fun E1 ce nC w1 hx1 qB ha1 nu=>?_
  obtain⟨iY,kj,oK,lD⟩:=chain h1 hle hA hF hx1;unfold OS at h2;cases e1 with
  |normal=>
   cases ce<;>simp only [zT] at qB<;>first|exact qB.elim|skip
   simp only at h2;obtain⟨u,s2,h3,h4⟩:=ax h2;have iR:St.Le I s2 s':=M.le _ _ _ _ h4;unfold OQ at h3;obtain⟨ob,s3,h5,h6⟩:=ax h3;have tD:=hx1.keep _ _ hk;cases ob with
   |loop x=>
    simp only at h6;cases hst:x.state with
    |ready=>
     rw [hst] at h6;simp only at h6;have hgx:merge I s1 g k=some (.loop x):=by
      obtain⟨e1',e2',e3',e4',e5'⟩:=ow h5;have l6:=M.le _ _ _ _ h6;rw [(iY.first iR) k (by rw [l6.T k e5',Bool.true_or]),e1']
     obtain⟨y,q',y0,y1,y2,y3,y4,y5,y6,y7⟩:=tK nu hgx tD;obtain⟨n1,qM⟩:=Aw h5 h6 nu (iY.first iR) tD y0 (y':={y with state:=.busy}) (fun q=>.loop rfl y2 y3 y4 y5 y6.1 y6.2 y7);refine⟨w1.putObj b (.loop {y with state:=.busy}),run_beginRound y0 (by rw [y1,hst]), ?_⟩;have hx2:Env.Ext E1 E1 s1.next s2.next:=⟨fun _ _ h=>h,fun _ h=>.inl h⟩;obtain⟨Dt,hF2,LX,wG⟩:=chain h3 iR iY kj hx2;obtain⟨⟨e2,a2⟩,s4,h7,h8⟩:=ax h4;have aam:St.Le I s4 s':=M.le _ _ _ _ h8;refine kn (some k) body a1 s2 e2 a2 s4 h7 E1 _ _ nC _ (some b) ⟨q,tD⟩ qM (Dt.first aam) (hF2.first aam.next) ha1 fun E2 ce2 ca2 w2 hx3 wM ha2 hR3=>?_
     obtain⟨hA3,hF3,hX3,hm3⟩:=chain h7 aam Dt hF2 hx3;have hk2:=hx3.keep _ _ tD;have fin:∀(jump:Option Code),(ke lo k jump:M I jz).run s4=some (r,s')→∃v w',(Instr.endRound b jump).run P w2=.ok v w'∧∃E',Env.Ext E E' s.next s'.next∧EnR E' r (.returned v)∧Rel P lo w0 E' (merge I s' g) w':=fun jump hj=>by
      unfold ke at hj;obtain⟨ob2,s5,j1,j2⟩:=ax hj;cases ob2 with
      |loop z=>
       simp only at j2;obtain⟨u2,s6,j3,j4⟩:=ax j2;obtain⟨j5,rfl⟩:=pure_run j4;subst j5;have hgz:merge I s4 (merge I s2 (merge I s1 g)) k=some (.loop z):=by
        obtain⟨e1',e2',e3',e4',e5'⟩:=ow j1;have l6:=M.le _ _ _ _ j3;rw [hA3 k (by rw [l6.T k e5',Bool.true_or]),e1']
       obtain⟨y',q2,z0,z1,z2,z3,z4,z5,z6,z7⟩:=tK hR3 hgz hk2;obtain⟨n2,hR4⟩:=Aw j1 j3 hR3 hA3 hk2 z0 (y':={y' with state:=if jump.isNone then .ready else .done,pending:=jump}) (fun q=>.loop rfl rfl z3 z4 z5 z6.1 z6.2 z7);refine⟨_,_,run_endRound jump z0,E2, ?_,.bool _, ?_⟩
       ·exact oK E2 (LX E2 (hX3 E2 ⟨fun _ _ h=>h,fun _ h=>.inl h⟩))
       ·rw [hm3,wG,lD] at hR4;exact hR4
      |_=>exact(aB j2).elim
     cases e2 with
     |normal=>
      cases ce2<;>simp only [zT] at wM<;>first|exact wM.elim|skip
      exact fin none h8
     |ret=>
      cases ce2<;>simp only [zT] at wM<;>first|exact wM.elim|skip
      exact fin (some .ret) h8
     |exit id=>
      cases ce2<;>simp only [zT] at wM<;>first|exact wM.elim|skip
      subst wM;exact fin (some (.exit id)) h8
     |panic v=>exact(aB h8).elim
    |_=>rw [hst] at h6;exact(aB h6).elim
   |_=>exact(aB h6).elim
  |_=>exact(aB h2).elim
theorem iD {X:Hk} (hX:Plain P X w0.w) {self:Self I} (kn:fD P lo w0 self.code) (hc:fC P lo w0 self.call) {ops:Array Oper} {ρ:Option Nat}:∀(l:List Oper) (a:aD),lu P lo w0 ρ (lY P X lo ρ self ops l a) a (fun ρ' Q ca w=>wpListIn (qW ρ') 0 P ops Q l ca w)
 |[],a=>by
  intro s e a' s' hr E g w ca Q ρ' hρ hR hA hF ha hQ;obtain⟨h1,rfl⟩:=pure_run hr;cases h1;exact hQ E .normal ca w (.refl _ _) trivial ha xO
 |o::rest,a=>by
  intro s e a' s' hr E g w ca Q ρ' hρ hR hA hF ha hQ;have hw:=uS (ops:=ops) ha o;unfold lY at hr;unfold wpListIn;rw [hw];cases mg:gC ops a o with
  |false=>
   simp only [mg,cond_false] at hr;obtain⟨a1,s1,h1,h2⟩:=ax hr;obtain⟨rfl,ha1⟩:=ha.put (VR.undef E) h1;rw [if_neg ai];exact⟨fun _ _=>trivial,iD hX kn hc rest a1 _ e a' s' h2 E g w _ Q ρ' hρ hR hA hF ha1 hQ⟩
  |true=>
   simp only [mg,cond_true] at hr;rw [if_pos rfl];refine⟨fun _ _=>trivial, ?_⟩;have hev:=ha.ev (lo:=lo) hR.old;by_cases hp:∃x,o.op=.panic x
   ·obtain⟨x,hx⟩:=hp;unfold opB at hr;rw [hx] at hr;simp only at hr;unfold OU arg at hr;cases hv:zA lo a x with
    |none=>rw [hv] at hr;obtain⟨_,_,h1,_⟩:=ax hr;exact(aB h1).elim
    |some v=>
     rw [hv] at hr;obtain⟨v1,s1,h1,h2⟩:=ax hr;obtain⟨rfl,rfl⟩:=pure_run h1;unfold OT at h2;split at h2
     ·rename_i t u;obtain⟨h3,rfl⟩:=pure_run h2;cases h3;have Yn:=hev _ _ hv;generalize hq:ca.eval x=q at Yn;cases Yn with
      |iface _ hu=>
       rename_i u';have hrun:(execOp ca.eval o).run P w=.halt (.panic (.iface t u')) w:=by
        unfold execOp;rw [hx];simp [hq,Instr.panic]
       rw [Oper.semAt_eq _ _ _ (by rw [hx];intro c h;cases h),hrun];exact hQ E (.panic [{v:=.iface t u',recovered:=false}]) ca w (.refl _ _) ⟨_,rfl,.iface t hu⟩ ha xO
     ·exact(aB h2).elim
   ·have hnp:opB P X lo ρ self a o (lY P X lo ρ self ops rest)=(fY P X lo (zA lo a) o>>=Av lo ρ self a o (lY P X lo ρ self ops rest)):=by
     unfold opB;split
     ·rename_i x hx;exact absurd ⟨x,hx⟩ hp
     ·rfl
    rw [hnp] at hr;obtain⟨r,s1,h1,h2⟩:=ax hr;have iR:St.Le I s1 s':=M.le _ _ _ _ h2;obtain⟨E1,nx,w1,hrun,hx1,qC,nu⟩:=oJ (lo:=lo) (w0:=w0) (E:=E) hX hev o s r s1 h1 E g w (fun _ _ h=>h) hR (hA.first iR) (hF.first iR.next) trivial;obtain⟨iY,kj,oK,lD⟩:=chain h1 iR hA hF hx1;have ha1:=ha.mono hx1.keep;have aan:(∀d,r≠ .defer d)→(o.semAt (qW ρ').round ca.eval).run P w=(execOp ca.eval o).run P w:=fun hne=>by
     rw [Oper.semAt_eq];intro c hc0;have:∃d,r=.defer d:=by
      have h9:=h1;unfold fY at h9;rw [hc0] at h9;simp only [Ff] at h9;split at h9
      ·unfold vP at h9;split at h9
       ·obtain⟨h9,_⟩:=pure_run h9;exact⟨_,h9⟩
       ·exact(aB h9).elim
      ·exact(aB h9).elim
     obtain⟨d,hd⟩:=this;exact hne d hd
    cases r with
    |val v=>
     rw [aan (fun d h=>by cases h),hrun];obtain⟨a1,s2,h3,h4⟩:=ax h2;have key:∀v',VR E1 v v'→wpListIn (qW ρ') 0 P ops Q rest (ca.put o.dst v') w1:=fun v' hv'=>by
      obtain⟨rfl,ha2⟩:=ha1.put hv' h3;refine iD hX kn hc rest a1 _ e a' s' h4 E1 _ w1 _ Q ρ' (hρ.mono hx1.keep) nu iY kj ha2 fun E' ce mH w' za Dp ha' tJ=>hQ E' ce mH w' (oK E' za) Dp ha' (by rw [lD] at tJ;exact tJ)
     exact LW
    |call f args=>
     rw [aan (fun d h=>by cases h),hrun];cases nx<;>simp only [NR] at qC<;>first|exact qC.elim|skip
     rename_i f' cs;obtain⟨rfl,cM⟩:=qC;obtain⟨en,s2,h3,h4⟩:=ax h2;have jS:St.Le I s2 s':=M.le _ _ _ _ h4;have gR:=hc f args s1 en s2 h3 E1 _ w1 cs nu (iY.first jS) (kj.first jS.next) cM;rw [Oper.uponIn_enter];refine⟨iA,mU (gR.mono fun e2 w2 ⟨E2,hx2,hen,qM⟩=>?_)⟩;exact VU
    |defer d=>
     unfold Av at h2;simp only at h2;cases ρ with
     |some l=>exact(aB h2).elim
     |none=>
     cases ρ' with
     |some l'=>exact hρ.elim
     |none=>
     simp only [tG,cond_true] at h2;change Oper.uponIn (qW none) 0 P o ca _ Q ((execOp ca.eval o).run P w);rw [hrun];cases nx<;>simp only [NR] at qC<;>first|exact qC.elim|skip
     rename_i d';obtain⟨a1,s2,h3,h4⟩:=ax h2;have ha2:kH E1 ⟨a.n,a.t,d::a.defers⟩ {ca with defers:=d'::ca.defers}:=⟨ha1.size,ha1.val,by simp [ha1.len],fun j x y hx hy=>by
      rcases j with _|j
      ·simp at hx hy;subst hx;subst hy;exact qC
      ·simp at hx hy;exact ha1.defers j x y hx hy⟩
     obtain⟨rfl,ha3⟩:=ha2.put (VR.undef E1) h3;refine iD hX kn hc rest a1 _ e a' s' h4 E1 _ w1 _ Q none trivial nu iY kj ha3 fun E' ce mH w' za Dp ha' tJ=>hQ E' ce mH w' (oK E' za) Dp ha' (by rw [lD] at tJ;exact tJ)
    |round l ts b c=>
     rw [aan (fun d h=>by cases h),hrun];cases nx<;>simp only [NR] at qC<;>first|exact qC.elim|skip
     rename_i l' f' cs b' c';obtain⟨rfl,rfl,⟨q,hq⟩,cM⟩:=qC;obtain⟨en,s2,h3,h4⟩:=ax h2;have jS:St.Le I s2 s':=M.le _ _ _ _ h4;have gR:=CT (ρ':=ρ') (f:=f') kn h3 nu (iY.first jS) (kj.first jS.next) hq cM;rw [Oper.uponIn_round];refine⟨iA,(gR.mono fun e2 w2 ⟨E2,hx2,hen,qM⟩=>?_)⟩;exact VU
    |panic v=>exact(aB h2).elim
    |recover=>exact(aB h2).elim
end
end Go.Am
/- A part of the proof. Conditions: none. -/
set_option maxRecDepth 100000
set_option maxHeartbeats 8000000
namespace Go.Am
open Go Go.RowKit
noncomputable section
variable {μ:Type} {I:gT μ} {P:Program} {lo:dP} {w0:Bs} {E:Env}
def alone {α:Type} (m:M I α):M I (α × Nat × Nat):=⟨fun s=>match m.run ⟨s.next,s.mem,0,0⟩ with
  |none=>none
  |some (a,s')=>some ((a,s'.T,s'.W),⟨s'.next,s'.mem,s.T|||s'.T,s.W|||s'.W⟩),fun s a s' h=>by
 cases e:m.run ⟨s.next,s.mem,0,0⟩ with
 |none=>rw [e] at h;cases h
 |some x=>
  obtain⟨b,s1⟩:=x;rw [e] at h;cases h;have hl:=m.le _ _ _ e;refine⟨hl.next,fun k hk=>by simp [Nat.testBit_or,hk],fun k hk=>by simp [Nat.testBit_or,hk],fun k hk=>?_⟩;simp [Nat.testBit_or] at hk;exact hl.mem k hk.2⟩
theorem I5 {α:Type} {m:M I α} {s s':St μ} {a:α} {T W:Nat} (h:(alone m).run s=some ((a,T,W),s')):
  m.run ⟨s.next,s.mem,0,0⟩=some (a,⟨s'.next,s'.mem,T,W⟩)∧s'.T=s.T|||T∧s'.W=s.W|||W:=by
 simp only [alone] at h;cases e:m.run ⟨s.next,s.mem,0,0⟩ with
 |none=>rw [e] at h;cases h
 |some x=>
  obtain⟨b,s1⟩:=x;rw [e] at h;cases h;exact⟨rfl,rfl,rfl⟩
def evO (lo:dP) (ops:Array Oper) (o:Oper) (a:aD):Ev
 | .tmp t=>bif (o.looksAt ops).contains t then some (a.val t) else none
 |x=>zA lo a x
def acZ (e:jz):M I Value:=match e with
 | .ret v=>pure v
 | .panic _=>fail
def agH (lo:dP) (self:Self I) (r:bB):M I Value:=match r with
 | .val v=>pure v
 | .call f args=>self.call f args>>=acZ
 | .round l ts b c=>Af lo self l ts b c>>=acZ
 |_=>fail
def ER (P:Program) (X:Hk) (lo:dP) (self:Self I) (ops:Array Oper) (o:Oper) (a:aD):M I Value:=
 bif gC ops a o then fY P X lo (evO lo ops o a) o>>=agH lo self else pure undef
structure Mk where
 T:Nat
 W:Nat
def YV (P:Program) (X:Hk) (lo:dP) (self:Self I) (ops:Array Oper):List Oper→aD→M I (aD × List Mk)
 |[],a=>pure (a,[])
 |o::rest,a=>alone (ER P X lo self ops o a)>>=fun r=>iQ a o.dst r.1>>=fun a'=>YV P X lo self ops rest a'>>=fun q=>pure (q.1,⟨r.2.1,r.2.2⟩::q.2)
def ES (ops:Array Oper) (o p:Oper) (x y:Mk):Bool:=o.apart ops p && Nat.beq (x.W &&& (y.T|||y.W)) 0 && Nat.beq (x.T &&& y.W) 0
def rE (acc:List Nat):List Edge→Nat
 |[]=>0
 |e::l=>bif Region.binds .any e then(rE acc l|||1<<<e.on)|||acc.getD e.on 0 else rE acc l
def jR:List Oper→List Nat→List Nat
 |[],acc=>acc
 |o::l,acc=>jR l (acc++[rE acc o.after.toList])
def Ag (ops:Array Oper) (bef:List Nat) (ms:List Mk):Bool:=
 (ms.zipIdx.all fun(y,j)=>ms.zipIdx.all fun(x,i)=> !Nat.blt i j||(bef.getD j 0).testBit i||match ops[i]?,ops[j]? with
  |some o,some p=>ES ops o p x y
  |_,_=>false) && ops.toList.zipIdx.all fun(o,i)=>o.after.all fun e=> !Region.binds .any e||Nat.blt e.on i
def Gy (P:Program) (X:Hk) (lo:dP) (self:Self I) (ops:Array Oper) (a:aD):M I (bF × aD):=
 YV P X lo self ops ops.toList a>>=fun q=>bif Ag ops (jR ops.toList []) q.2 then pure (.normal,q.1) else fail
def Ah (n i:Nat) (o:Oper):Bool:=(o.after.all fun e=> !Region.binds .any e||Nat.blt e.on i) && match o.guard with
 |some (j,_)=>Nat.blt j n
 |none=>true
def xS (ops:Array Oper):Option Oper:=match ops.back? with
 |some p=>bif (ops.toList.zipIdx.all fun(o,i)=>Ah ops.pop.size i o) && ((List.range ops.pop.size).all fun i=>((jR ops.toList []).getD ops.pop.size 0).testBit i) then some p else none
 |none=>none
def ac1 (k:aD→M I (bF × aD)) (r:bF × aD):M I (bF × aD):=match r with
 |(.normal,a1)=>k a1
 |r=>pure r
def K7 (P:Program) (X:Hk) (lo:dP) (ρ:Option Nat) (self:Self I) (ops:Array Oper) (a:aD):M I (bF × aD):=match xS ops with
 |some p=>Gy P X lo self ops.pop a>>=ac1 (lY P X lo ρ self ops [p])
 |none=>Gy P X lo self ops a
end
end Go.Am
/- A part of the proof. Conditions: none. -/
set_option maxRecDepth 100000
set_option maxHeartbeats 8000000
namespace Go.Am
open Go Go.RowKit
noncomputable section
variable {μ:Type} {I:gT μ} {P:Program} {lo:dP} {w0:Bs} {E:Env}
def abW (k:aD→M I (bF × aD)) (r:bF × aD):M I (bF × aD):=match r with
 |(.normal,a1)=>k a1
 |r=>pure r
def KZ (id:Nat) (r:bF × aD):M I (bF × aD):=match r with
 |(.exit j,a1)=>bif Nat.beq j id then pure (.normal,a1) else pure (.exit j,a1)
 |r=>pure r
def K0 (lo:dP) (self:Self I) (ρ:Option Nat) (c:Operand) (x y:Code) (a:aD):M I (bF × aD):=match zA lo a c with
 |some (.bool b)=>bif b then self.code ρ x a else self.code ρ y a
 |_=>fail
def tmpsOf (a:aD):Array Value:=((List.range a.n).map a.val).toArray
def Gd (a:aD) (ps:Array Tmp) (assign body:Code) (d:Nat):Obj:=.loop {state:=.ready,pending:=none,fn:=0,tmps:=tmpsOf a,params:=ps,assign,body,defers:=d}
def oF (ρ:Option Nat) (a:aD) (ps:Array Tmp) (assign body:Code):M I (Nat × List Deferred):=match ρ with
 |none=>new (.deferred (some []))>>=fun r=>new (Gd a ps assign body r)>>=fun l=>pure (l,[{target:=.collected r,args:=#[]}])
 |some k=>rd k>>=fun o=>match o with
  | .loop r0=>new (Gd a ps assign body r0.defers)>>=fun l=>pure (l,[])
  |_=>fail
def marked (a:aD) (m:List Deferred):aD:=⟨a.n,a.t,m++a.defers⟩
def UM (a:aD) (j:Option Code):M I (bF × aD):=match j with
 |none=>pure (.normal,a)
 |some .ret=>pure (.ret,a)
 |some (.exit id)=>pure (.exit id,a)
 |_=>fail
def BD (lo:dP) (l:Nat):M I (Option Code):=rd l>>=fun o=>match o with
 | .loop r=>match r.state with
  | .busy=>fail
  |_=>wr lo l (some (.loop {r with state:=.exhausted}))>>=fun _=>pure r.pending
 |_=>fail
def ux (lo:dP) (l:Nat) (a:aD) (e:jz):M I (bF × aD):=match e with
 | .panic v=>pure (.panic v,a)
 | .ret _=>BD lo l>>=UM a
def K5 (X:Hk) (lo:dP) (self:Self I) (g:Operand) (a:aD) (lm:Nat × List Deferred):M I (bF × aD):=match zA lo a g with
 |some (.func (.func f) first cap)=>bif X.X f then self.call f (first++#[.func (.yield lm.1) #[] #[]]++cap)>>=ux lo lm.1 (marked a lm.2) else fail
 |_=>fail
def zB (X:Hk) (lo:dP) (self:Self I) (ρ:Option Nat) (g:Operand) (ps:Array Tmp) (assign body:Code) (a:aD):M I (bF × aD):=
 oF ρ a ps assign body>>=K5 X lo self g a
def BF (P:Program) (X:Hk) (lo:dP) (self:Self I) (ρ:Option Nat):Code→aD→M I (bF × aD)
 | .skip,a=>pure (.normal,a)
 | .label _,a=>pure (.normal,a)
 | .seq x y,a=>self.code ρ x a>>=abW (self.code ρ y)
 | .cond c x y,a=>K0 lo self ρ c x y a
 | .block id b,a=>self.code ρ b a>>=KZ id
 | .loop b,a=>K6 self ρ b 1000000 a
 | .scope b,a=>self.code ρ b a
 | .exit id,a=>pure (.exit id,a)
 | .ret,a=>pure (.ret,a)
 | .region _ ops false,a=>lY P X lo ρ self ops ops.toList a
 | .region _ ops true,a=>K7 P X lo ρ self ops a
 | .rangeFunc g ps assign body,a=>zB X lo self ρ g ps assign body a
 |_,_=>fail
def Qg (P:Program) (a:aD):List ResultVar→M I (List Value)
 |[]=>pure []
 | .tmp t::l=>Qg P a l>>=fun vs=>pure (a.val t::vs)
 | .cell x t::l=>BG P t (a.val x)>>=fun v=>Qg P a l>>=fun vs=>pure (v::vs)
def XP (P:Program) (fn:Func) (a:aD):M I Value:=Qg P a fn.results.toList>>=fun vs=>match vs with
 |[v]=>pure v
 |vs=>pure (.tuple vs.toArray)
abbrev Qh (I:gT μ):=Option (FuncId→Array Value→Option (M I jz))
def st0 (n:Nat):St (Trie Obj):=⟨n,.leaf,0,0⟩
end
end Go.Am
/- A part of the proof. Conditions: none. -/
set_option maxRecDepth 100000
set_option maxHeartbeats 8000000
namespace Go.Am
open Go Go.RowKit
variable {μ:Type} {I:gT μ} {P:Program} {lo:dP} {w0:Bs}
inductive cN (ops:List Oper):Nat→Nat→Prop
 |Np {j:Nat} {o:Oper} {e:Edge}:ops[j]?=some o→e∈o.after→Region.binds .any e=true→cN ops j e.on
 |step {j i:Nat} {o:Oper} {e:Edge}:ops[j]?=some o→e∈o.after→Region.binds .any e=true→cN ops e.on i→cN ops j i
theorem mX (ops:List Oper) {acc:List Nat} {j:Nat} {o:Oper} (ho:ops[j]?=some o) (aay:∀j i,(acc.getD j 0).testBit i=true→cN ops j i):∀(l:List Edge),(∀e∈l,e∈o.after)→∀i,(rE acc l).testBit i=true→cN ops j i
 |[],_,i,h=>by simp [rE] at h
 |e::l,hl,i,h=>by
  unfold rE at h;cases hb:Region.binds .any e with
  |false=>rw [hb] at h;exact mX ops ho aay l (fun x hx=>hl x (by simp [hx])) i h
  |true=>
   rw [hb,cond_true,Nat.testBit_or,cx] at h;simp only [Bool.or_eq_true,decide_eq_true_eq] at h;rcases h with(h|h)|h
   ·exact mX ops ho aay l (fun x hx=>hl x (by simp [hx])) i h
   ·subst h;exact .Np ho (hl e ai) hb
   ·exact .step ho (hl e ai) hb (aay _ _ h)
theorem gp (ops:List Oper):∀(l:List Oper) (acc:List Nat),(∀k o,l[k]?=some o→ops[acc.length+k]?=some o)→(∀j i,(acc.getD j 0).testBit i=true→cN ops j i)→
  ∀j i,((jR l acc).getD j 0).testBit i=true→cN ops j i
 |[],acc,_,h=>h
 |o::l,acc,hl,h=>by
  refine gp ops l _ (fun k p hk=>?_) fun j i Dv=>?_
  ·have:=hl (k+1) p (by simpa using hk);rw [List.length_append];rw [←this];congr 1;simp;omega
  ·rcases Nat.lt_trichotomy j acc.length with hj|hj|hj
   ·refine h j i ?_;simpa [List.getD,List.getElem?_append_left hj] using Dv
   ·subst hj;have ho:=hl 0 o rfl;simp at ho;refine mX ops ho h o.after.toList (fun e he=>by simpa using he) i ?_;simpa [List.getD] using Dv
   ·simp [List.getD,List.getElem?_append_right (Nat.le_of_lt hj)] at Dv;rw [List.getElem?_eq_none aV] at Dv;simp at Dv
def fB (ops:List Oper) (S:Nat→Bool):Prop:=∀j o e,S j=true→ops[j]?=some o→e∈o.after→Region.binds .any e=true→S e.on=true
theorem cN.mem {ops:List Oper} {S:Nat→Bool} (hS:fB ops S) {j i:Nat} (h:cN ops j i) (hj:S j=true):S i=true:=by
 induction h with
 |Np ho he hb=>exact hS _ _ _ hj ho he hb
 |step ho he hb _ ih=>exact ih (hS _ _ _ hj ho he hb)
def cR {α β:Type} (p:α→Bool) (f:α→β):β→List α→β
 |b,[]=>b
 |b,r::l=>cR p f (if p r then f r else b) l
theorem dN {α β:Type} {p q:α→Bool} {f:α→β}:∀(l:List α) (b:β),(∀r∈l,p r=q r)→cR p f b l=cR q f b l
 |[],_,_=>rfl
 |r::l,b,h=>by
  simp only [cR,h r ai];exact dN l _ fun x hx=>h x (by simp [hx])
theorem eJ {α β:Type} {p:α→Bool} {f:α→β}:∀(l:List α) (b:β),(∀r∈l,p r=false)→cR p f b l=b
 |[],_,_=>rfl
 |r::l,b,h=>by
  simp only [cR,h r ai,Bool.false_eq_true,if_false];exact eJ l _ fun x hx=>h x (by simp [hx])
theorem qu {α β:Type} {p:α→Bool} {f:α→β}:∀(l m:List α) (b:β),cR p f b (l++m)=cR p f (cR p f b l) m
 |[],_,_=>rfl
 |r::l,m,b=>by simp only [List.cons_append,cR];exact qu l m _
theorem C5 {α β:Type} {p:α→Bool} {f:α→β} {l m:List α} {r:α} (b:β) (hr:p r=true) (hm:∀x∈m,p x=false):cR p f b (l++r::m)=f r:=by
 rw [qu];simp only [cR,hr,if_true];exact eJ m _ hm
structure yL (μ:Type) where
 i:Nat
 o:Oper
 a:aD
 v:Value
 n0:Nat
 m0:μ
 n1:Nat
 m1:μ
 T:Nat
 W:Nat
def ad6 (a:aD) (dst:Option Tmp) (v:Value) (a1:aD):Prop:=(∀t,a1.val t=if dst=some t then v else a.val t)∧a1.n=a.n∧a1.defers=a.defers∧∀d,dst=some d→d<a.n
theorem T4 {a a':aD} {dst:Option Tmp} {v:Value} {s s':St μ} (hr:(iQ a dst v:M I aD).run s=some (a',s')):s'=s∧ad6 a dst v a':=by
 unfold iQ at hr;cases dst with
 |none=>obtain⟨rfl,rfl⟩:=pure_run hr;exact⟨rfl,fun t=>by simp,rfl,rfl,fun d h=>by cases h⟩
 |some d=>
  cases hb:(Nat.blt d a.n && Nat.blt d 4095) with
  |false=>simp only [hb] at hr;exact(aB hr).elim
  |true=>
   simp only [hb] at hr;obtain⟨rfl,rfl⟩:=pure_run hr;rw [blt_eq,blt_eq] at hb;simp only [Bool.and_eq_true,decide_eq_true_eq] at hb;refine⟨rfl,fun t=>?_,rfl,rfl,fun d' h=>by cases h;exact hb.1⟩;unfold aD.val;rw [Trie.tC 12 a.t d t (some v) aa];by_cases e:t=d
   ·subst e;simp
   ·have:¬(d=t):=fun h=>e h.symm
    simp [e,this]
inductive Tr (P:Program) (X:Hk) (lo:dP) (self:Self I) (ops:Array Oper):Nat→List Oper→aD→Nat→μ→List (yL μ)→aD→Nat→μ→Prop
 |nil {i:Nat} {a:aD} {n:Nat} {m:μ}:Tr P X lo self ops i [] a n m [] a n m
 |cons {i:Nat} {o:Oper} {rest:List Oper} {a a1 aN:aD} {n n1 nN:Nat} {m m1 mN:μ} {v:Value} {T W:Nat} {L:List (yL μ)}:(ER P X lo self ops o a).run ⟨n,m,0,0⟩=some (v,⟨n1,m1,T,W⟩)→ad6 a o.dst v a1→
   Tr P X lo self ops (i+1) rest a1 n1 m1 L aN nN mN→Tr P X lo self ops i (o::rest) a n m (⟨i,o,a,v,n,m,n1,m1,T,W⟩::L) aN nN mN
variable {X:Hk} {self:Self I} {ops:Array Oper}
theorem GR:∀(l:List Oper) (i:Nat) (a:aD) (s s':St μ) (q:aD × List Mk),(YV P X lo self ops l a).run s=some (q,s')→
  ∃L,Tr P X lo self ops i l a s.next s.mem L q.1 s'.next s'.mem∧q.2=L.map (fun r=>⟨r.T,r.W⟩)∧(∀k,s'.T.testBit k=(s.T.testBit k||L.any (fun r=>r.T.testBit k)))∧∀k,s'.W.testBit k=(s.W.testBit k||L.any (fun r=>r.W.testBit k))
 |[],i,a,s,s',q,h=>by
  obtain⟨rfl,rfl⟩:=pure_run h;exact⟨[],.nil,rfl,by simp,by simp⟩
 |o::rest,i,a,s,s',q,h=>by
  obtain⟨⟨v,T,W⟩,s1,h1,h2⟩:=ax h;obtain⟨a1,s2,h3,h4⟩:=ax h2;obtain⟨q2,s3,h5,h6⟩:=ax h4;obtain⟨rfl,rfl⟩:=pure_run h6;obtain⟨g1,g2,g3⟩:=I5 h1;obtain⟨rfl,hp⟩:=T4 h3;obtain⟨L,hL,hm,hT,hW⟩:=GR rest (i+1) a1 _ _ q2 h5;refine⟨_,.cons g1 hp hL,by simp [hm],fun k=>?_,fun k=>?_⟩
  ·rw [hT,g2,Nat.testBit_or];simp [Bool.or_assoc]
  ·rw [hW,g3,Nat.testBit_or];simp [Bool.or_assoc]
theorem Tr.idx {i:Nat} {l:List Oper} {a aN:aD} {n nN:Nat} {m mN:μ} {L:List (yL μ)} (h:Tr P X lo self ops i l a n m L aN nN mN):L.length=l.length∧∀(k:Nat) (r:yL μ),L[k]?=some r→r.i=i+k∧l[k]?=some r.o:=by
 induction h with
 |nil=>exact⟨rfl,fun k r h=>by simp at h⟩
 |cons h1 h2 h3 ih=>
  refine⟨by simp [ih.1],fun k r hk=>?_⟩;rcases k with _|k
  ·simp at hk;subst hk;exact⟨rfl,rfl⟩
  ·simp at hk;obtain⟨h4,h5⟩:=ih.2 k r hk;exact⟨by omega,by simpa using h5⟩
theorem Tr.ge {i:Nat} {l:List Oper} {a aN:aD} {n nN:Nat} {m mN:μ} {L:List (yL μ)} (h:Tr P X lo self ops i l a n m L aN nN mN):∀r∈L,i≤r.i:=fun r hr=>by
 obtain⟨k,hk⟩:=List.mem_iff_getElem?.1 hr;have:=(h.idx.2 k r hk).1;omega
theorem Tr.one {i:Nat} {l:List Oper} {a aN:aD} {n nN:Nat} {m mN:μ} {L:List (yL μ)} (h:Tr P X lo self ops i l a n m L aN nN mN):∀r∈L,(ER P X lo self ops r.o r.a).run ⟨r.n0,r.m0,0,0⟩=some (r.v,⟨r.n1,r.m1,r.T,r.W⟩):=by
 induction h with
 |nil=>intro r hr;cases hr
 |cons h1 h2 h3 ih=>
  intro r hr;rcases List.mem_cons.1 hr with rfl|hr
  ·exact h1
  ·exact ih r hr
theorem Tr.frame {i:Nat} {l:List Oper} {a aN:aD} {n nN:Nat} {m mN:μ} {L:List (yL μ)} (h:Tr P X lo self ops i l a n m L aN nN mN):aN.n=a.n∧aN.defers=a.defers∧n≤nN∧∀r∈L,r.a.n=a.n∧n≤r.n0∧r.n0≤r.n1∧r.n1≤nN∧∀d,r.o.dst=some d→d<a.n:=by
 induction h with
 |nil=>exact⟨rfl,rfl,Nat.le_refl _,fun r hr=>by cases hr⟩
 |cons h1 h2 h3 ih=>
  have hl:=(ER P X lo self ops _ _).le _ _ _ h1;obtain⟨i1,i2,i3,i4⟩:=ih;have hn:=hl.next;simp only at hn;refine⟨by rw [i1,h2.2.1],by rw [i2,h2.2.2.1],by omega,fun r hr=>?_⟩;rcases List.mem_cons.1 hr with rfl|hr
  ·exact⟨rfl,Nat.le_refl _,hn,i3,h2.2.2.2⟩
  ·obtain⟨j1,j2,j3,j4,j5⟩:=i4 r hr;exact⟨by rw [j1,h2.2.1],by omega,j3,j4,fun d hd=>by have:=j5 d hd;rw [h2.2.1] at this;exact this⟩
theorem Tr.apart {i:Nat} {l:List Oper} {a aN:aD} {n nN:Nat} {m mN:μ} {L:List (yL μ)} (h:Tr P X lo self ops i l a n m L aN nN mN):∀r∈L,∀r'∈L,r.i<r'.i→r.n1≤r'.n0:=by
 induction h with
 |nil=>intro r hr;cases hr
 |cons h1 h2 h3 ih=>
  intro r hr r' Dz hlt;have jx:=h3.ge;rcases List.mem_cons.1 hr with rfl|hr
  ·rcases List.mem_cons.1 Dz with rfl|Dz
   ·exact absurd hlt (Nat.lt_irrefl _)
   ·exact(h3.frame.2.2.2 r' Dz).2.1
  ·rcases List.mem_cons.1 Dz with rfl|Dz
   ·have:=jx r hr;simp only at hlt;omega
   ·exact ih r hr r' Dz hlt
theorem Tr.mem {i:Nat} {l:List Oper} {a aN:aD} {n nN:Nat} {m mN:μ} {L:List (yL μ)} (h:Tr P X lo self ops i l a n m L aN nN mN) (k:Nat):
  (∀r∈L,I.get r.m0 k=cR (fun x=>decide (x.i<r.i) && x.W.testBit k) (fun x=>I.get x.m1 k) (I.get m k) L)∧I.get mN k=cR (fun x=>x.W.testBit k) (fun x=>I.get x.m1 k) (I.get m k) L:=by
 induction h with
 |nil=>exact⟨fun r hr=>(List.not_mem_nil hr).elim,rfl⟩
 | @cons i o rest a a1 aN n n1 nN m m1 mN v T W L h1 h2 h3 ih=>
  have hl:=(ER P X lo self ops _ _).le _ _ _ h1;have jx:=h3.ge;have hbase:(if W.testBit k=true then I.get m1 k else I.get m k)=I.get m1 k:=by
   split
   ·rfl
   ·rename_i hw;exact(hl.mem k (by simpa using hw)).symm
  exact Wd
theorem Tr.vals {i:Nat} {l:List Oper} {a aN:aD} {n nN:Nat} {m mN:μ} {L:List (yL μ)} (h:Tr P X lo self ops i l a n m L aN nN mN) (t:Nat):
  (∀r∈L,r.a.val t=cR (fun x=>decide (x.i<r.i) && decide (x.o.dst=some t)) (fun x=>x.v) (a.val t) L)∧aN.val t=cR (fun x=>decide (x.o.dst=some t)) (fun x=>x.v) (a.val t) L:=by
 induction h with
 |nil=>exact⟨fun r hr=>(List.not_mem_nil hr).elim,rfl⟩
 | @cons i o rest a a1 aN n n1 nN m m1 mN v T W L h1 h2 h3 ih=>
  have jx:=h3.ge;have hbase:(if decide (o.dst=some t)=true then v else a.val t)=a1.val t:=by
   rw [h2.1];simp
  exact Wd
structure FA (ops:Array Oper) (r r':yL μ):Prop where
 op:r.o.apart ops r'.o=true
 w:∀k,r.W.testBit k=true→r'.T.testBit k=false∧r'.W.testBit k=false
 t:∀k,r.T.testBit k=true→r'.W.testBit k=false
theorem yM {x y:Nat} (h:Nat.beq (x &&& y) 0=true) (k:Nat) (hx:x.testBit k=true):y.testBit k=false:=by
 have h0:=Nat.eq_of_beq_eq_true h;have:=congrArg (fun n=>n.testBit k) h0;simpa [Nat.testBit_and,hx] using this
theorem C6 {r r':yL μ} (h:ES ops r.o r'.o ⟨r.T,r.W⟩ ⟨r'.T,r'.W⟩=true):FA ops r r':=by
 unfold ES at h;simp only [Bool.and_eq_true] at h;obtain⟨⟨h1,h2⟩,h3⟩:=h;refine⟨h1,fun k hk=>?_,fun k hk=>yM h3 k hk⟩;have:=yM h2 k hk;rw [Nat.testBit_or,Bool.or_eq_false_iff] at this;exact this
theorem C7 {L:List (yL μ)} (hL:∀(k:Nat) (r:yL μ),L[k]?=some r→r.i=k∧ops.toList[k]?=some r.o) (h:Ag ops (jR ops.toList []) (L.map fun r=>(⟨r.T,r.W⟩:Mk))=true):
  (∀r∈L,∀r'∈L,r.i<r'.i→cN ops.toList r'.i r.i∨FA ops r r')∧∀i o e,ops.toList[i]?=some o→e∈o.after→Region.binds .any e=true→e.on<i:=by
 unfold Ag at h;simp only [Bool.and_eq_true] at h;obtain⟨h1,h2⟩:=h;constructor
 ·intro r hr r' Dz hlt;obtain⟨i,hi⟩:=List.mem_iff_getElem?.1 hr;obtain⟨j,hj⟩:=List.mem_iff_getElem?.1 Dz;obtain⟨e1,o1⟩:=hL i r hi;obtain⟨e2,o2⟩:=hL j r' hj;have J9:((⟨r'.T,r'.W⟩:Mk),j)∈(L.map fun r=>(⟨r.T,r.W⟩:Mk)).zipIdx:=by
   rw [List.mem_zipIdx_iff_getElem?];simp [hj]
  have hm:((⟨r.T,r.W⟩:Mk),i)∈(L.map fun r=>(⟨r.T,r.W⟩:Mk)).zipIdx:=by
   rw [List.mem_zipIdx_iff_getElem?];simp [hi]
  have h3:=List.all_eq_true.1 h1 _ J9;have h4:=List.all_eq_true.1 h3 _ hm;simp only [Bool.or_eq_true] at h4;rcases h4 with(h4|h4)|h4
  ·rw [blt_eq] at h4;simp at h4;omega
  ·rw [e1,e2];exact .inl (gp ops.toList ops.toList [] (fun k o hk=>by simpa using hk) (fun j i h=>by simp at h) j i h4)
  ·refine .inr (C6 ?_);have q1:ops[i]?=some r.o:=by rw [←o1];simp
   have q2:ops[j]?=some r'.o:=by rw [←o2];simp
   simpa [q1,q2] using h4
 ·intro i o e ho he hb;have hm:(o,i)∈ops.toList.zipIdx:=CG;exact NJ
structure T5 (P:Program) (lo:dP) (w0:Bs) (ops:Array Oper) (I:gT μ) (E0:Env) (g:Nat→Option Obj) (a:aD) (ca0:Act) (b0 b1:Nat) (L:List (yL μ)) (S:Nat→Bool) (E:Env) (ca:Act) (w:World):Prop where
 rel:Rel P lo w0 E (fun k=>cR (fun x=>S x.i && x.W.testBit k) (fun x=>I.get x.m1 k) (g k) L) w
 size:ca.tmps.size=a.n
 val:∀t,VR E (cR (fun x=>S x.i && decide (x.o.dst=some t)) (fun x=>x.v) (a.val t) L) (ca.tmps.getD t undef)
 defers:ca.defers=ca0.defers
 fresh:∀r∈L,S r.i=false→∀k,r.n0≤k→k<r.n1→E k=none
 ext:Env.Ext E0 E b0 b1
 closed:fB ops.toList S
theorem AG {a:aD} {ca:Act} {o:Oper} {E:Env} (hs:ca.tmps.size=a.n) (h:∀t∈o.looksAt ops,VR E (a.val t) (ca.tmps.getD t undef)):Region.wanted o (yielded ops ca.tmps)=gC ops a o:=by
 unfold Region.wanted gC;cases hg:o.guard with
 |none=>rfl
 |some jw=>
  obtain⟨j,want⟩:=jw;simp only;have hy:yielded ops ca.tmps j=jW ops a j:=by
   unfold yielded jW;cases hd:(ops[j]?).bind (·.dst) with
   |none=>rfl
   |some d=>
    simp only [Option.bind_some,blt_eq,←hs];have hv:=h d (by unfold Oper.looksAt;rw [hg];simp [hd]);exact Wh
  exact NX
theorem T6 {a:aD} {ca:Act} {o:Oper} {E:Env} (hold:∀k,k<lo.G→E k=some (k,0)) (h:∀t∈o.looksAt ops,VR E (a.val t) (ca.tmps.getD t undef)):∀x v,evO lo ops o a x=some v→VR E v (ca.eval x):=by
 intro x v hv;cases x with
 |tmp t=>
  unfold evO at hv;cases hc:(o.looksAt ops).contains t with
  |true=>
   simp only [hc,cond_true,Option.some.injEq] at hv;subst hv;exact h t (by simpa using hc)
  |false=>simp only [hc,cond_false] at hv;cases hv
 |const u=>
  change zA lo a (.const u)=some v at hv;exact NT
 |global g=>
  change zA lo a (.global g)=some v at hv;exact NA
 |func f=>
  change zA lo a (.func f)=some v at hv;simp [zA] at hv;subst hv;exact .func rfl (fun _ _ j h=>by simp at h) rfl (fun _ _ j h=>by simp at h)
theorem aaz {H:Plain P X w0.w} (kn:fD P lo w0 self.code) (hc:fC P lo w0 self.call) {ρ':Option Nat} {o:Oper} {a:aD} {s s':St μ} {v:Value} (hr:(ER P X lo self ops o a).run s=some (v,s')) {E:Env} {g:Nat→Option Obj} {w:World} {ca:Act} {Q:Exit→Act→World→Prop} {K:Act→World→Prop} {i:Nat}
  (ho:ops[i]?=some o) (hR:Rel P lo w0 E g w) (hA:dh I s s' g) (hF:eR s s' E) (hs:ca.tmps.size=a.n) (aJ:∀t∈o.looksAt ops,VR E (a.val t) (ca.tmps.getD t undef))
  (hK:∀E' v' w',Env.Ext E E' s.next s'.next→VR E' v v'→Rel P lo w0 E' (merge I s' g) w'→K (ca.put o.dst v') w'):wpOpIn (qW ρ') 0 P ops Q i K ca w:=by
 have hw:=AG (ops:=ops) hs aJ;unfold wpOpIn;simp only [ho];rw [hw];unfold ER at hr;cases mg:gC ops a o with
 |false=>
  simp only [mg,cond_false] at hr;obtain⟨rfl,rfl⟩:=pure_run hr;rw [if_neg ai];exact⟨fun _ _=>trivial,hK E undef w (.refl _ _) (VR.undef E) xO⟩
 |true=>
  simp only [mg,cond_true] at hr;rw [if_pos rfl];refine⟨fun _ _=>trivial, ?_⟩;obtain⟨r,s1,h1,h2⟩:=ax hr;have iR:St.Le I s1 s':=M.le _ _ _ _ h2;have hev:=T6 (lo:=lo) (ops:=ops) hR.old aJ;obtain⟨E1,nx,w1,hrun,hx1,qC,nu⟩:=oJ (lo:=lo) (w0:=w0) (E:=E) H hev o s r s1 h1 E g w (fun _ _ h=>h) hR (hA.first iR) (hF.first iR.next) trivial;obtain⟨iY,kj,oK,lD⟩:=chain h1 iR hA hF hx1;cases r with
  |val u=>
   rw [Fe h1 (fun d h=>by cases h),hrun];obtain⟨rfl,rfl⟩:=pure_run h2;cases nx<;>simp only [NR] at qC<;>first|exact qC.elim|skip
   ·exact hK E1 _ w1 hx1 qC nu
   ·subst qC;exact hK E1 undef w1 hx1 (VR.undef E1) nu
  |call f args=>
   rw [Fe h1 (fun d h=>by cases h),hrun];cases nx<;>simp only [NR] at qC<;>first|exact qC.elim|skip
   rename_i f' cs;obtain⟨rfl,cM⟩:=qC;obtain⟨en,s2,h3,h4⟩:=ax h2;have jS:St.Le I s2 s':=M.le _ _ _ _ h4;have gR:=hc f args s1 en s2 h3 E1 _ w1 cs nu (iY.first jS) (kj.first jS.next) cM;rw [Oper.uponIn_enter];refine⟨iA,mU (gR.mono fun e2 w2 ⟨E2,hx2,hen,qM⟩=>?_)⟩;exact Ww
  |round l ts b c=>
   rw [Fe h1 (fun d h=>by cases h),hrun];cases nx<;>simp only [NR] at qC<;>first|exact qC.elim|skip
   rename_i l' f' cs b' c';obtain⟨rfl,rfl,⟨q,hq⟩,cM⟩:=qC;obtain⟨en,s2,h3,h4⟩:=ax h2;have jS:St.Le I s2 s':=M.le _ _ _ _ h4;have gR:=CT (ρ':=ρ') (f:=f') kn h3 nu (iY.first jS) (kj.first jS.next) hq cM;rw [Oper.uponIn_round];refine⟨iA,(gR.mono fun e2 w2 ⟨E2,hx2,hen,qM⟩=>?_)⟩;exact Ww
  |defer d=>exact(aB h2).elim
  |panic u=>exact(aB h2).elim
  |recover=>exact(aB h2).elim
section
variable {E0:Env} {g:Nat→Option Obj} {a aN:aD} {ca0:Act} {n nN:Nat} {m mN:μ} {L:List (yL μ)}
theorem Jz {H:Plain P X w0.w} (kn:fD P lo w0 self.code) (hc:fC P lo w0 self.call) {ρ':Option Nat} (hT:Tr P X lo self ops 0 ops.toList a n m L aN nN mN) (hg:∀r∈L,∀k,(r.T.testBit k||r.W.testBit k)=true→g k=I.get m k)
  (tj:∀r∈L,∀r'∈L,r.i<r'.i→cN ops.toList r'.i r.i∨FA ops r r') {S S':Nat→Bool} {E:Env} {ca:Act} {w:World} (hI:T5 P lo w0 ops I E0 g a ca0 n nN L S E ca w)
  {r:yL μ} (hr:r∈L) (hSr:S r.i=false) (FC:∀e∈r.o.after,Region.binds .any e=true→S e.on=true) (Xh:∀j,S' j=(S j||decide (j=r.i)))
  {Q:Exit→Act→World→Prop} {K:Act→World→Prop} (hK:∀E' mH w',T5 P lo w0 ops I E0 g a ca0 n nN L S' E' mH w'→K mH w'):wpOpIn (qW ρ') 0 P ops Q r.i K ca w:=by
 obtain⟨hlen,aaA⟩:=hT.idx;have wh:∀(k:Nat) (x:yL μ),L[k]?=some x→x.i=k∧ops.toList[k]?=some x.o:=fun k x hx=>by
  have:=aaA k x hx;exact⟨by omega,this.2⟩
 have hat:∀x∈L,L[x.i]?=some x∧ops.toList[x.i]?=some x.o:=fun x hx=>by
  obtain⟨k,hk⟩:=List.mem_iff_getElem?.1 hx;obtain⟨h1,h2⟩:=wh k x hk;rw [h1];exact⟨hk,h2⟩
 have GS:∀x∈L,∀y∈L,x.i=y.i→x=y:=fun x hx y hy e=>by
  have h1:=(hat x hx).1;have h2:=(hat y hy).1;rw [e,h2] at h1;cases h1;rfl
 have hro:=(hat r hr).2;have Aj:∀i,cN ops.toList r.i i→S i=true:=fun i h=>by
  cases h with
  |Np ho he hb=>rw [hro] at ho;cases ho;exact FC _ he hb
  |step ho he hb h2=>rw [hro] at ho;cases ho;exact h2.mem hI.closed (FC _ he hb)
 have ql:∀i,cN ops.toList i r.i→S i=false:=fun i h=>by
  cases hs:S i with
  |false=>rfl
  |true=>have:=h.mem hI.closed hs;rw [hSr] at this;cases this
 have ahj:∀k,(r.T.testBit k||r.W.testBit k)=true→∀x∈L,(S x.i && x.W.testBit k)=(decide (x.i<r.i) && x.W.testBit k):=fun k hk x hx=>by
  cases Xi:x.W.testBit k with
  |false=>simp
  |true=>
   simp only [Bool.and_true];rcases Nat.lt_trichotomy x.i r.i with hlt|heq|hgt
   ·rcases tj x hx r hr hlt with h|h
    ·rw [Aj _ h];simp [hlt]
    ·obtain⟨h1,h2⟩:=h.w k Xi;rw [h1,h2] at hk;cases hk
   ·have:=GS x hx r hr heq;subst this;rw [hSr];simp
   ·rcases tj r hr x hx hgt with h|h
    ·rw [ql _ h];have:¬x.i<r.i:=aa;simp [this]
    ·exfalso;rw [Bool.or_eq_true] at hk;rcases hk with hk|hk
     ·rw [h.t k hk] at Xi;cases Xi
     ·rw [(h.w k hk).2] at Xi;cases Xi
 have ad8:∀t,(t∈r.o.looksAt ops∨r.o.dst=some t)→∀x∈L,(S x.i && decide (x.o.dst=some t))=(decide (x.i<r.i) && decide (x.o.dst=some t)):=fun t ht x hx=>by
  by_cases T7:x.o.dst=some t
  ·simp only [T7,decide_true,Bool.and_true];rcases Nat.lt_trichotomy x.i r.i with hlt|heq|hgt
   ·rcases tj x hx r hr hlt with h|h
    ·rw [Aj _ h];simp [hlt]
    ·obtain⟨h1,h2,h3⟩:=Oper.apart_spec h.op;rcases ht with ht|ht
     ·exact absurd ht (h1 t T7)
     ·exact absurd ht (h2 t T7)
   ·have:=GS x hx r hr heq;subst this;rw [hSr];simp
   ·rcases tj r hr x hx hgt with h|h
    ·rw [ql _ h];have:¬x.i<r.i:=aa;simp [this]
    ·obtain⟨h1,h2,h3⟩:=Oper.apart_spec h.op;rcases ht with ht|ht
     ·exact absurd ht (h3 t T7)
     ·exact absurd T7 (h2 t ht)
  ·simp [T7]
 have yR:=hT.one r hr;obtain⟨f1,f2,f3,f4⟩:=hT.frame;obtain⟨j1,j2,j3,j4,j5⟩:=f4 r hr;have ahk:ops[r.i]?=some r.o:=by rw [←hro];simp
 refine aaz (H:=H) kn hc yR ahk hI.rel (fun k hk=>?_) (fun k h1 h2=>hI.fresh r hr hSr k h1 h2) (by rw [j1];exact hI.size) (fun t ht=>?_) fun E' v' w' hx hv tJ=>hK E' _ w' ?_
 ·
  show cR _ _ _ _=_;rw [dN L (g k) (ahj k hk),(hT.mem k).1 r hr,hg r hr k hk]
 ·rw [(hT.vals t).1 r hr,←dN L (a.val t) (ad8 t (.inl ht))];exact hI.val t
 ·have jJ:=hx.keep;obtain⟨L1,L2,JI⟩:=List.append_of_mem hr;have hL2:∀x∈L2,r.i<x.i:=fun x hx=>by
   obtain⟨k,hk⟩:=List.mem_iff_getElem?.1 hx;have h1:L[L1.length]?=some r:=by rw [JI];simp
   have h2:L[L1.length+1+k]?=some x:=by
    rw [JI,List.getElem?_append_right aa,show L1.length+1+k - L1.length=k+1 by omega];simpa using hk
   have e1:=(wh _ _ h1).1;have e2:=(wh _ _ h2).1;omega
  have Pk:∀x∈L2,x∈L:=fun x hx=>by rw [JI];simp [hx]
  refine⟨?_, ?_,fun t=>?_, ?_,fun x Xj hxS k h1 h2=>?_, ?_,fun j o e hj ho he hb=>?_⟩
  ·have hm:merge I ⟨r.n1,r.m1,r.T,r.W⟩ (fun k=>cR (fun x=>S x.i && x.W.testBit k) (fun x=>I.get x.m1 k) (g k) L)=fun k=>cR (fun x=>S' x.i && x.W.testBit k) (fun x=>I.get x.m1 k) (g k) L:=by
    funext k;unfold merge;simp only;cases hw:r.W.testBit k with
    |false=>
     rw [if_neg ai];refine dN L _ fun x hx=>?_
     rw [Xh];by_cases e:x.i=r.i
     ·have:=GS x hx r hr e;subst this;simp [hw]
     ·simp [e]
    |true=>
     rw [if_pos rfl,JI];refine(C5 (p:=fun x=>S' x.i && x.W.testBit k) (f:=fun x=>I.get x.m1 k) (l:=L1) (m:=L2) (r:=r) (g k) (by simp only [Xh,hw];simp) fun x hx=>?_).symm;show(S' x.i && x.W.testBit k)=false;cases Xi:x.W.testBit k with
     |false=>simp
     |true=>
      rw [Bool.and_true,Xh];have hlt:=hL2 x hx;rcases tj r hr x (Pk x hx) hlt with h|h
      ·rw [ql _ h];have:¬x.i=r.i:=aa;simp [this]
      ·rw [(h.w k hw).2] at Xi;cases Xi
   rw [hm] at tJ;exact tJ
  ·simp [Act.put];cases r.o.dst<;>simp [hI.size]
  ·by_cases hd:r.o.dst=some t
   ·have hval:cR (fun x=>S' x.i && decide (x.o.dst=some t)) (fun x=>x.v) (a.val t) L=r.v:=by
     rw [JI];refine C5 _ (by rw [Xh];simp [hd]) fun x hx=>?_
     by_cases T7:x.o.dst=some t
     ·have hlt:=hL2 x hx;have:=ad8 t (.inr hd) x (Pk x hx);rw [T7] at this;have hn:¬x.i<r.i:=aa;have A5:¬x.i=r.i:=aa;simp [hn] at this;rw [Xh,this];simp [A5]
     ·simp [T7]
    rw [hval,hd];have hlt:t<ca.tmps.size:=by rw [hI.size];exact j5 t hd
    simp [Act.put,hlt];exact hv
   ·have hval:cR (fun x=>S' x.i && decide (x.o.dst=some t)) (fun x=>x.v) (a.val t) L=cR (fun x=>S x.i && decide (x.o.dst=some t)) (fun x=>x.v) (a.val t) L:=by
     refine dN L _ fun x hx=>?_
     rw [Xh];by_cases e:x.i=r.i
     ·have:=GS x hx r hr e;subst this;simp [hd]
     ·simp [e]
    rw [hval];have:(ca.put r.o.dst v').tmps.getD t undef=ca.tmps.getD t undef:=by
     cases hdd:r.o.dst with
     |none=>rfl
     |some d=>
      have hne:¬d=t:=fun e=>hd (by rw [hdd,e])
      simp [Act.put,Array.getElem?_setIfInBounds,hne]
    rw [this];exact(hI.val t).mono jJ
  ·rw [←hI.defers];cases r.o.dst<;>rfl
  ·rw [Xh] at hxS;simp only [Bool.or_eq_false_iff,decide_eq_false_iff_not] at hxS;have h0:=hI.fresh x Xj hxS.1 k h1 h2;cases hE:E' k with
   |none=>rfl
   |some y=>
    rcases hx.dom k (by simp [hE]) with h3|h3
    ·exact absurd h0 h3
    ·simp only at h3;rcases Nat.lt_or_gt_of_ne hxS.2 with hlt|hgt
     ·have:=hT.apart x Xj r hr hlt;omega
     ·have:=hT.apart r hr x Xj hgt;omega
  ·refine⟨fun k x hk=>jJ k x (hI.ext.keep k x hk),fun k hk=>?_⟩;rcases hx.dom k hk with h1|h1
   ·exact hI.ext.dom k h1
   ·simp only at h1;exact .inr aa
  ·rw [Xh] at hj ⊢;rw [Bool.or_eq_true,decide_eq_true_eq] at hj;rcases hj with hj|hj
   ·rw [hI.closed j o e hj ho he hb];rfl
   ·subst hj;rw [hro] at ho;cases ho;rw [FC e he hb];rfl
end
theorem iU (listed:Array Bool) (i:Nat) (h:listed.getD i true=false):(listed.setIfInBounds i true).toList.count false+1=listed.toList.count false:=by
 have hi:i<listed.size:=by
  rcases Nat.lt_or_ge i listed.size with h'|h'
  ·exact h'
  ·simp [Array.getElem?_eq_none h'] at h
 have hv:listed[i]=false:=by simpa [hi] using h
 rw [Array.toList_setIfInBounds];rw [List.count_set (by simpa using hi)];have qG:false∈listed.toList:=by
  rw [List.mem_iff_getElem];exact⟨i,by simpa using hi,by simpa using hv⟩
 have hp:=List.count_pos_iff.2 qG;have e1:(listed.toList[i]'(by simpa using hi)==false)=true:=by simpa using hv
 rw [if_pos e1,if_neg ai];omega
theorem GL {H:Plain P X w0.w} (kn:fD P lo w0 self.code) (hc:fC P lo w0 self.call) {ρ:Option Nat} (a:aD):lu P lo w0 ρ (Gy P X lo self ops a) a (fun ρ' Q ca w=>wpAnyIn (qW ρ') 0 P .any ops Q ops.size (Array.replicate ops.size false) ca w):=by
 intro s e a' s' hr E0 g w ca Q ρ' hρ hR hA hF ha hQ;unfold Gy at hr;obtain⟨q,s1,h1,h2⟩:=ax hr;cases dy:Ag ops (jR ops.toList []) q.2 with
 |false=>simp only [dy] at h2;exact(aB h2).elim
 |true=>
  simp only [dy,cond_true] at h2;obtain⟨h3,rfl⟩:=pure_run h2;cases h3;obtain⟨L,hT,hm,hTT,hWW⟩:=GR (P:=P) (X:=X) (lo:=lo) (self:=self) (ops:=ops) ops.toList 0 a s s' q h1;rw [hm] at dy;obtain⟨hlen,aaA⟩:=hT.idx;have wh:∀(k:Nat) (x:yL μ),L[k]?=some x→x.i=k∧ops.toList[k]?=some x.o:=fun k x hx=>by
   have:=aaA k x hx;exact⟨by omega,this.2⟩
  obtain⟨tj,Gn⟩:=C7 wh dy;have hg:∀r∈L,∀k,(r.T.testBit k||r.W.testBit k)=true→g k=I.get s.mem k:=fun r hr k hk=>by
   refine hA k ?_;rw [hTT,hWW];rw [Bool.or_eq_true] at hk;rcases hk with hk|hk
   ·have:L.any (fun r=>r.T.testBit k)=true:=List.any_eq_true.2 ⟨r,hr,hk⟩;simp [this]
   ·have:L.any (fun r=>r.W.testBit k)=true:=List.any_eq_true.2 ⟨r,hr,hk⟩;simp [this]
  obtain⟨f1,f2,f3,f4⟩:=hT.frame;have done:∀(S:Nat→Bool) E nC w1,(∀i,i<ops.size→S i=true)→T5 P lo w0 ops I E0 g a ca s.next s'.next L S E nC w1→Q .normal nC w1:=fun S E nC w1 hS hI=>by
   have hSx:∀x∈L,S x.i=true:=fun x hx=>by
    obtain⟨k,hk⟩:=List.mem_iff_getElem?.1 hx;have:=(wh k x hk).1;have hlt:k<L.length:=(List.getElem?_eq_some_iff.1 hk).1;rw [this];exact hS k (by rw [hlen] at hlt;simpa using hlt)
   refine hQ E .normal nC w1 hI.ext trivial ⟨by rw [f1];exact hI.size,fun t=>?_,by rw [f2,hI.defers];exact ha.len,by rw [f2,hI.defers];exact fun j d d' h1 h2=>(ha.defers j d d' h1 h2).mono hI.ext.keep⟩ ?_
   ·have:=hI.val t;rw [(hT.vals t).2,←dN (p:=fun x=>S x.i && decide (x.o.dst=some t)) L (a.val t) (fun x hx=>by rw [hSx x hx,Bool.true_and])];exact this
   ·have hme:merge I s' g=fun k=>cR (fun x=>S x.i && x.W.testBit k) (fun x=>I.get x.m1 k) (g k) L:=by
     funext k;rw [dN (q:=fun x=>x.W.testBit k) L (g k) (fun x hx=>by rw [hSx x hx,Bool.true_and])];unfold merge;rw [hWW];cases aaB:L.any (fun r=>r.W.testBit k) with
     |true=>
      rw [if_pos ai,(hT.mem k).2];obtain⟨r,hr1,hr2⟩:=List.any_eq_true.1 aaB;rw [hg r hr1 k (by simp [hr2])]
     |false=>
      have hnone:∀x∈L,x.W.testBit k=false:=fun x hx=>by
       cases hw:x.W.testBit k with
       |false=>rfl
       |true=>rw [List.any_eq_true.2 ⟨x,hx,hw⟩] at aaB;cases aaB
      rw [eJ L _ hnone];split
      ·rename_i hw;rw [(hT.mem k).2,eJ L _ hnone];exact(hA k (by rw [hTT,hWW];simp at hw;simp [hw])).symm
      ·rfl
    rw [hme];exact hI.rel
  have key:∀(fuel:Nat) (listed:Array Bool) E nC w1,listed.size=ops.size→listed.toList.count false≤fuel→T5 P lo w0 ops I E0 g a ca s.next s'.next L (fun i=>listed.getD i false) E nC w1→wpAnyIn (qW ρ') 0 P .any ops Q fuel listed nC w1:=by
   intro fuel
   induction fuel with
   |zero=>
    intro listed E nC w1 hsz LK hI;have hall:∀i,i<ops.size→listed.getD i false=true:=fun i hi=>by
     exact LL
    refine⟨?_,done _ E nC w1 hall hI⟩;apply List.eq_nil_iff_forall_not_mem.2;intro i hi;obtain⟨h4,o,ho,_⟩:=mem_ready.1 hi;have hlt:i<ops.size:=(Array.getElem?_eq_some_iff.1 ho).1;exact Wp
   |succ fuel ih=>
    intro listed E nC w1 hsz LK hI;constructor
    ·intro hnone;refine done _ E nC w1 ?_ hI;intro i
     induction i using Nat.strongRecOn with
     |_ i ihi=>
      intro hi;have hi':i<listed.size:=aa;cases hv:listed[i] with
      |true=>simp [hi',hv]
      |false=>
       exfalso;have:i∈Region.ready .any ops listed:=mem_ready.2 ⟨by simp [hi',hv],ops[i],by simp [hi],fun e he hb=>by
        have hlt:=Gn i ops[i] e (by simp [hi]) he hb;exact ihi e.on hlt aa⟩
       rw [hnone] at this;cases this
    ·intro i hi;obtain⟨h4,o,ho,hall⟩:=mem_ready.1 hi;have hlt:i<ops.size:=(Array.getElem?_eq_some_iff.1 ho).1;have hi':i<listed.size:=aa;have hL:i<L.length:=by rw [hlen];simpa using hlt
     obtain⟨q1,q2⟩:=wh i L[i] (by simp [hL]);have hoo:L[i].o=o:=by
      have:ops.toList[i]?=some o:=by simpa using ho
      rw [this] at q2;cases q2;rfl
     have WL:listed.getD i false=false:=by
      simp [hi'] at h4 ⊢;exact h4
     have hstep:=Jz (H:=H) (ρ':=ρ') (K:=wpAnyIn (qW ρ') 0 P .any ops Q fuel (listed.setIfInBounds i true)) (Q:=Q) (S':=fun j=>(listed.setIfInBounds i true).getD j false) kn hc hT hg tj hI (r:=L[i]) (List.getElem_mem hL) (by rw [q1];exact WL) (by rw [hoo];exact hall)
      (fun j=>by
       rw [q1];by_cases e:j=i
       ·subst e;simp [hi']
       ·have hne:¬i=j:=fun h=>e h.symm
        simp [e,Array.getElem?_setIfInBounds,hne])
      (fun E' mH w' hI'=>ih _ E' mH w' (by simpa using hsz) (by have:=iU listed i h4;omega) hI')
     rw [q1] at hstep;exact hstep
  refine key ops.size _ E0 ca w ai ai ⟨?_,ha.size,fun t=>?_,rfl,fun r hr _ k h1 h2=>hF k (by have:=(f4 r hr).2.1;omega) (by have:=(f4 r hr).2.2.2.1;omega),⟨fun _ _ h=>h,fun _ h=>.inl h⟩,fun j o e hj=>?_⟩
  ·have:(fun k=>cR (fun x:yL μ=>(Array.replicate ops.size false).getD x.i false && x.W.testBit k) (fun x=>I.get x.m1 k) (g k) L)=g:=by
    funext k;exact eJ L _ fun x hx=>by
     simp [Array.getElem?_replicate];intro h;split at h<;>simp at h
   rw [this];exact hR
  ·rw [eJ L _ fun x hx=>by
     simp [Array.getElem?_replicate];intro h;split at h<;>simp at h]
   exact ha.val t
  ·exact uP
end Go.Am