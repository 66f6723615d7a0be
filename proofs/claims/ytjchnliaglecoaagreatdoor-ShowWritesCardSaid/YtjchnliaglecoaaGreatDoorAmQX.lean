/- A part of the proof. Conditions: none. -/
import Derived.RangeFuncNested
import Derived.Test.YtjchnliaglecoaaGreatDoorZz
import Derived.Test.YtjchnliaglecoaaGreatDoorAmHX
import Derived.LoopNIn
import Derived.DefersIn
import Derived.OrdersIn
import Derived.Scope
import Derived.TacticsIn
import Derived.Recover
set_option linter.unusedVariables false
set_option linter.unusedSimpArgs false
set_option maxRecDepth 100000
set_option maxHeartbeats 8000000
namespace Go.Am
open Go Go.RowKit
variable {μ:Type} {I:ir μ} {P:Program} {lo:eK} {w0:Bs} {E:Env} {H:(Nat→Option Obj)→Prop}
structure Hk where
 X:FuncId→Bool
 Z:FuncId→List Value→Option Value
 L:FuncId→List Value→Option Value
structure Plain (P:Program) (h:Hk) (W0:World):Prop where
 x : ∀ f, h.X f = true → ∃ fn, P.funcs[f]? = some fn ∧ (fn.name == "runtime.NumGoroutine") = false ∧ fn.body.isNone = false
 z:∀f vs v,h.Z f vs=some v→vs.all (fD 3)=true∧fD 3 v=true∧∀w,(callFunc f vs.toArray).run P w=.ok (.value v) w
 l:∀f vs v,h.L f vs=some v→vs.all (fD 3)=true∧fD 3 v=true∧∀w,Below W0.heap.size W0 w→Calls P f vs.toArray w fun e w'=>e=.returned v∧Below w.heap.size w w'
theorem fU.fD {as cs:Array Value} (h:fU E as cs) (hg:as.toList.all (fD 3)=true):cs=as:=
 VR.MK (E:=E) h.1 hg fun a c j ha hc hga=>oP (h.2 a c j ha hc) 3 hga
def vO (P:Program) (lo:eK) (ev:Ev) (o:Oper) (b:Builtin) (args:Array Operand) (ts:Array TypeId):M I bT:=
 match b,args,ts with
 | .append,⟨[s,x]⟩,⟨[st,xt]⟩=>arg ev s>>=fun sv=>arg ev x>>=fun xv=>jf (zD P lo st xt sv xv)
 | .copy,⟨[d,x]⟩,⟨[dt,_]⟩=>arg ev d>>=fun dv=>arg ev x>>=fun xv=>jf (P6 P lo dt dv xv)
 | .len,⟨[x]⟩,⟨[t]⟩=>arg ev x>>=fun xv=>jf (aem P t xv)
 | .cap,⟨[x]⟩,⟨[t]⟩=>arg ev x>>=fun xv=>jf (aen P t xv)
 | .recover,_,_=>pure .recover
 | .append,_,_| .copy,_,_| .len,_,_| .cap,_,_| .clear,_,_| .close,_,_| .delete,_,_| .panic,_,_| .print,_,_| .println,_,_=>fail
 |_,_,_=>mW P ev o
def fR (ps:List Tmp) (vs:List Value) (ts:Array Value):Array Value:=(ps.zip vs).foldl (fun t (i,v)=>t.setIfInBounds i v) ts
theorem P7 (ps:Array Tmp) (vs:Array Value) (ts:Array Value):(ps.zip vs).foldl (fun tmps (t,a)=>tmps.setIfInBounds t a) ts=fR ps.toList vs.toList ts:=by
 unfold fR;rw [←Array.foldl_toList,Array.toList_zip]
theorem nZ:∀(ps:List Tmp) (vs cs:List Value) (ts ts':Array Value),fU E ts ts'→LR E vs cs→fU E (fR ps vs ts) (fR ps cs ts')
 |[],vs,cs,ts,ts',h,hv=>by simpa [fR] using h
 |p::ps,[],cs,ts,ts',h,hv=>by
  have:cs=[]:=List.eq_nil_of_length_eq_zero hv.1.symm;subst this;simpa [fR] using h
 |p::ps,v::vs,[],ts,ts',h,hv=>by have:=hv.1;simp at this
 |p::ps,v::vs,c::cs,ts,ts',h,hv=>by
  have h1:fU E (ts.setIfInBounds p v) (ts'.setIfInBounds p c):=by
   refine⟨by simpa using h.1,fun a b j ha hb=>?_⟩;rw [Array.getElem?_setIfInBounds] at ha hb;by_cases e:p=j
   ·subst e;rw [if_pos rfl] at ha hb;split at ha<;>split at hb<;>first|(cases ha;cases hb;exact hv.2 v c 0 rfl rfl)|(cases ha;done)|(cases hb;done)
   ·rw [if_neg e] at ha hb;exact h.2 a b j ha hb
  have h2:LR E vs cs:=⟨by have:=hv.1;simpa using this,fun a b j ha hb=>hv.2 a b (j+1) jk (by simpa using hb)⟩;exact nZ ps vs cs _ _ h1 h2
def P8 (k:Nat) (vs:List Value):M I bT:=rd k>>=fun o=>match o with
 | .loop r=>bif Nat.beq vs.length r.params.size then pure (.round k (fR r.params.toList vs r.tmps) r.assign r.body) else fail
 |_=>fail
def P9 (X:Hk) (ev:Ev) (fv:Operand) (args:Array Operand):M I bT:=match ev fv,evs ev args.toList with
 |some (.func (.func f) first cap),some vs=>bif X.X f then pure (.call f (first++vs.toArray++cap)) else match X.Z f (first++vs.toArray++cap).toList with
  |some v=>pure (.val v)
  |none=>fail
 |some (.func (.yield k) _ _),some vs=>P8 k vs
 |_,_=>fail
def uO (ev:Ev) (fv:Operand) (args:Array Operand):M I bT:=match ev fv,evs ev args.toList with
 |some (.func (.func f) first cap),some vs=>pure (.defer {target:=.fn (.func f) cap,args:=first++vs.toArray})
 |_,_=>fail
def isStr (P:Program) (t:TypeId):Bool:=match P.underlying t with
 |some .string=>true
 |_=>false
def ym (x:Value):M I Value:=match x with
 | .pointer (some _)=>pure x
 | .iface _ _=>pure x
 | .func (.func _) _ _=>pure x
 |_=>fail
def vP (x:Value) (i:Nat):M I Value:=match x with
 | .tuple vs=>match vs[i]? with
  |some v=>pure v
  |none=>fail
 |_=>fail
def Qa (c a b:Value):M I Value:=match c with
 | .bool true=>pure a
 | .bool false=>pure b
 |_=>fail
def rF:IntKind→IntKind→Bool
 | .i8,.i8| .i16,.i16| .i32,.i32| .i64,.i64| .u8,.u8| .u16,.u16| .u32,.u32| .u64,.u64=>true
 |_,_=>false
theorem nC {j k:IntKind} (h:rF j k=true):j=k:=by cases j<;>cases k<;>first|rfl|(simp [rF] at h)
def Gd (op:BinOp) (k:IntKind) (a b:Int):Option Value:=match op with
 | .add=>some (.int k (k.wrap (a+b)))
 | .sub=>some (.int k (k.wrap (a - b)))
 | .mul=>some (.int k (k.wrap (a*b)))
 | .eql=>some (.bool (a==b))
 | .neq=>some (.bool (a !=b))
 | .lss=>some (.bool (decide (a<b)))
 | .leq=>some (.bool (decide (a≤b)))
 | .gtr=>some (.bool (decide (a>b)))
 | .geq=>some (.bool (decide (a≥b)))
 |_=>none
def tI (op:BinOp) (x y:Value):Option Value:=match x,y with
 | .int k a,.int k' b=>bif rF k k' then Gd op k a b else none
 |_,_=>none
theorem sH {op:BinOp} {t:TypeId} {X Y:Operand} {x y v:Value} (h:tI op x y=some v) (w:World):(do eqGuard op t X Y x y;binOp op t x y:Sem Value).run P w=.ok v w∧fD 0 v=true:=by
 unfold tI at h;split at h
 ·rename_i k a k' b;cases hk:rF k k' with
  |false=>rw [hk] at h;cases h
  |true=>
   rw [hk] at h;have:=nC hk;subst this;simp only [cond_true] at h;unfold Gd at h;split at h<;>cases h<;>exact⟨by simp [eqGuard,binOp,Op.intArith,Op.intCmp],rfl⟩
 ·cases h
def Qb (P:Program) (op:BinOp) (t:TypeId) (x y:Value):M I bT:=match op with
 | .eql=>match qx P t x y with
  |some b=>pure (.val (.bool b))
  |none=>fail
 | .neq=>match qx P t x y with
  |some b=>pure (.val (.bool (!b)))
  |none=>fail
 |_=>fail
def aep (P:Program) (ev:Ev) (o:Oper) (op:BinOp) (t:TypeId) (x y:Value):M I bT:=match tI op x y with
 |some v=>pure (.val v)
 |none=>bif fD 3 x && fD 3 y then mW P ev o else Qb P op t x y
def Ge (P:Program) (s d:TypeId) (x:Value):Option Value:=match x with
 | .int _ n=>match P.underlying s,P.underlying d with
  |some _,some (.int k)=>some (.int k (k.wrap n))
  |_,_=>none
 |_=>none
def aah (P:Program) (ev:Ev) (o:Oper) (s d:TypeId) (x:Value):M I bT:=bif fD 3 x then mW P ev o else jf (aei P s d x)
def aai (P:Program) (ev:Ev) (o:Oper) (s d:TypeId) (x:Value):M I bT:=match Ge P s d x with
 |some v=>pure (.val v)
 |none=>aah P ev o s d x
def s1 (ev:Ev) (x:Operand) (f:Value→M I Value):M I bT:=arg ev x>>=fun v=>jf (f v)
def s2 (ev:Ev) (x y:Operand) (f:Value→Value→M I Value):M I bT:=arg ev x>>=fun v=>arg ev y>>=fun u=>jf (f v u)
def ahL (ev:Ev) (c a b:Operand):M I bT:=arg ev c>>=fun cv=>arg ev a>>=fun av=>arg ev b>>=fun bv=>jf (Qa cv av bv)
def Qc (P:Program) (ev:Ev) (t:TypeId) (ps:Array (Nat × Operand)):M I bT:=match II ev ps.toList with
 |some vs=>jf (ES P t vs)
 |none=>fail
def sI (P:Program) (ev:Ev) (t:TypeId) (n:Nat) (ps:Array (Nat × Operand)):M I bT:=match II ev ps.toList with
 |some vs=>jf (mY P t n vs)
 |none=>fail
def aeq (P:Program) (lo:eK) (ev:Ev) (t:TypeId) (a x:Operand):M I bT:=arg ev a>>=fun v=>arg ev x>>=fun xv=>PW (CX P lo t v xv)
def akS (P:Program) (ev:Ev) (o:Oper) (op:BinOp) (t:TypeId) (x y:Operand):M I bT:=arg ev x>>=fun xv=>arg ev y>>=fun yv=>aep P ev o op t xv yv
def ahM (P:Program) (ev:Ev) (o:Oper) (s d:TypeId) (x:Operand):M I bT:=arg ev x>>=fun v=>aai P ev o s d v
def aaj (ev:Ev) (f:FuncId) (first cap:Array Operand):M I bT:=match evs ev first.toList,evs ev cap.toList with
 |some fs,some cs=>pure (.val (.func (.func f) fs.toArray cs.toArray))
 |_,_=>fail
def Qd (P:Program) (ev:Ev) (o:Oper) (t:TypeId) (x:Operand) (l h m:Option Operand):M I bT:=bif isStr P t then mW P ev o else arg ev x>>=fun v=>match evo ev l,evo ev h,evo ev m with
 |some lv,some hv,some mv=>jf (Dk P t v lv hv mv)
 |_,_,_=>fail
def Qe (P:Program) (ev:Ev) (o:Oper) (t:TypeId) (x i:Operand):M I bT:=bif isStr P t then mW P ev o else s2 ev x i (Di P t)
def Xf (P:Program) (lo:eK) (ev:Ev) (t:TypeId) (m k x:Operand):M I bT:=arg ev m>>=fun mv=>arg ev k>>=fun kv=>arg ev x>>=fun xv=>PW (Aj P lo t mv kv xv)
def ahN (P:Program) (X:Hk) (lo:eK) (ev:Ev) (o:Oper) (c:Call):M I bT:=match c.callee with
 | .value f=>P9 X ev f c.args
 | .builtin b=>vO P lo ev o b c.args c.argTypes
 | .invoke _ _=>fail
def DJ (ev:Ev) (c:Call):M I bT:=match c.callee with
 | .value f=>uO ev f c.args
 |_=>fail
def akT (v:Value):M I Value:=pure v
def gH (P:Program) (X:Hk) (lo:eK) (ev:Ev) (o:Oper):M I bT:=match o.op with
 | .move x| .assign x=>s1 ev x akT
 | .pick c a b=>ahL ev c a b
 | .alloc t=>jf (CZ P t)
 | .box t x=>s1 ev x (afx t)
 | .build t ps=>Qc P ev t ps
 | .buildSlice t n ps=>sI P ev t n ps
 | .load t a=>s1 ev a (AJ P t)
 | .store t a x=>aeq P lo ev t a x
 | .nilCheck x=>s1 ev x ym
 | .binOp op t x y _=>akS P ev o op t x y
 | .unOp _ _ _=>mW P ev o
 | .convert s d x=>ahM P ev o s d x
 | .makeInterface t x=>s1 ev x (yP P t)
 | .makeFunc (.func f) first cap=>aaj ev f first cap
 | .makeMap _ none=>jf Ch
 | .makeSlice t l c=>s2 ev l c (oX P t)
 | .slice t x l h m=>Qd P ev o t x l h m
 | .fieldAddr t x f=>s1 ev x (fun v=>oF P t v f)
 | .field t x f=>s1 ev x (fun v=>Dg P t v f)
 | .indexAddr t x i=>s2 ev x i (oG P t)
 | .index t x i=>Qe P ev o t x i
 | .lookup t x i ok=>s2 ev x i (fun v iv=>Ak P t v iv ok)
 | .mapUpdate t m k x| .insert t m k x=>Xf P lo ev t m k x
 | .range t x=>s1 ev x (ET P t)
 | .next it nG=>s1 ev it (fun v=>Qf lo v nG)
 | .typeAssert x _ t ok=>s1 ev x (fun v=>yQ P v t ok)
 | .extract t i=>s1 ev t (fun v=>vP v i)
 | .call c=>ahN P X lo ev o c
 | .defer c=>DJ ev c
 |_=>fail
theorem fU.append {as bs cs ds:Array Value} (h:fU E as cs) (k:fU E bs ds):fU E (as++bs) (cs++ds):=by
 have:=(h.lst.append k.lst).arr;have e:∀x y:Array Value,(x.toList++y.toList).toArray=x++y:=fun x y=>by apply Array.toList_inj.1;simp
 rwa [e,e] at this
theorem IQ {X:Hk} (hX:Plain P X w0.w) {ev:Ev} {ρ:Operand→Value} (hρ:∀x v,ev x=some v→VR E v (ρ x)) {fv:Operand} {args:Array Operand} {ts:Array TypeId} {ty:TypeId}:
  az P lo w0 E H (P9 X ev fv args:M I bT) (do let d←resolve ρ {callee:=.value fv,args:=args,argTypes:=ts} ty;invoke d.target d.args) NR:=by
 unfold P9;split
 ·rename_i f first cap vs hf wA
  cases hx:X.X f with
  |false=>
   simp only [cond_false];split
   ·rename_i v hz;obtain⟨z1,z2,z3⟩:=hX.z f _ v hz;have hr:=hρ _ _ hf;have ha:=nB hρ wA;generalize hq:ρ fv=q at hr;cases hr with
    | @func _ _ _ cs ds g1 g2 g3 g4=>
     have hA:=(fU.append (fU.append ⟨g1,g2⟩ ha) ⟨g3,g4⟩);have he:=hA.fD (by simpa using z1);refine az.leaf (a:=bT.val v) (R:=NR) fun E1 g w hE _ _=>⟨.value v, ?_,cF E1 3 v z2⟩
     have:=z3 w;rw [show(first++vs.toArray++cap).toList.toArray=first++vs.toArray++cap by simp,←he] at this;simp [resolve,hq,Deferred.ofValue,invoke];simpa using this
   ·exact az.fail
  |true=>
   simp only [cond_true];obtain⟨fn,h1,h2,h3⟩:=hX.x f hx;have hr:=hρ _ _ hf;have ha:=nB hρ wA;generalize hq:ρ fv=q at hr;cases hr with
   | @func _ _ _ cs ds g1 g2 g3 g4=>
    refine az.leaf fun E1 g w hE _ _=>⟨.enter f (cs++args.map ρ++ds), ?_,rfl,((fU.append (fU.append ⟨g1,g2⟩ ha) ⟨g3,g4⟩)).mono hE⟩
    have h3':fn.body≠none:=fun e=>by rw [e] at h3;cases h3
    have h2' : ¬ fn.name = "runtime.NumGoroutine" := lV;simp [resolve, hq, Deferred.ofValue, invoke, callFunc, h1, h2', h3']
 ·rename_i k x1 x2 vs hf wA;have hr:=hρ _ _ hf;have ha:=nB hρ wA;generalize hq:ρ fv=q at hr;cases hr with
  | @yield _ b q hE0=>
   unfold P8;refine az.rd fun ob=>?_
   cases ob with
   |loop r=>
    simp only;cases hb:Nat.beq vs.length r.params.size with
    |false=>simp only [cond_false];exact az.fail
    |true=>
     simp only [cond_true];have hlen:=Nat.eq_of_beq_eq_true hb;refine az.leaf fun E1 g w hE hR ⟨_,hg⟩=>?_
     obtain⟨b',r',co,h1,h2,h3⟩:=hR.tie _ _ hg;have hk:=hE _ _ hE0;rw [hk] at h1;cases h1;cases h3 with
     | @loop _ y q' g1 g2 g3 g4 g5 g6 g7 g8=>
      refine⟨.round b y.fn (fR y.params.toList (args.map ρ).toList y.tmps) y.assign y.body, ?_,g4,g5,⟨_,hk⟩, ?_⟩
      ·have hsz:(args.map ρ).size=y.params.size:=by
        rw [g3,←hlen];have:=ha.1;simpa using this.symm
       have hy:=run_yield (P:=P) h2 hsz;rw [P7] at hy;simp only [resolve,hq,Deferred.ofValue,invoke,Sem.run_bind,Sem.run_pure,Result.andThen_ok,Array.empty_append,Array.append_empty];exact hy
      ·rw [g3];exact nZ _ _ _ _ _ ⟨g6,g7⟩ ((ha.mono hE).lst)
   |_=>exact az.fail
 ·exact az.fail
theorem EU {ev:Ev} {ρ:Operand→Value} (hρ:∀x v,ev x=some v→VR E v (ρ x)) {fv:Operand} {args:Array Operand} {ts:Array TypeId} {ty:TypeId}:
  az P lo w0 E H (uO ev fv args:M I bT) (do pure (.defer (←resolve ρ {callee:=.value fv,args:=args,argTypes:=ts} ty)):Sem Next) NR:=by
 unfold uO;split
 ·rename_i f first cap vs hf wA
  have hr:=hρ _ _ hf;have ha:=nB hρ wA;generalize hq:ρ fv=q at hr;cases hr with
  | @func _ _ _ cs ds g1 g2 g3 g4=>
   refine az.leaf fun E1 g w hE _ _=>⟨.defer {target:=.fn (.func f) ds,args:=cs++args.map ρ}, ?_,.inl ⟨f,_,_,rfl,rfl,fU.mono hE ⟨g3,g4⟩,(fU.append ⟨g1,g2⟩ ha).mono hE⟩⟩
   simp [resolve,hq,Deferred.ofValue]
 ·exact az.fail
theorem Al {ev:Ev} {ρ:Operand→Value} (hρ:∀x v,ev x=some v→VR E v (ρ x)) {o:Oper} {b:Builtin} {args:Array Operand} {ts:Array TypeId} (ho:o.op=.call {callee:=.builtin b,args:=args,argTypes:=ts}):
  az P lo w0 E S4 (vO P lo ev o b args ts:M I bT) (execOp ρ o) NR:=by
 have hs:∀cs b,o.op≠ .select cs b:=fun cs b e=>by rw [ho] at e;cases e
 have he:∀(c:Sem Next),(∀w,(builtin b ts o.type (args.map fun| .const _=>true|_=>false) (args.map ρ)).run P w=c.run P w)→∀w,(execOp ρ o).run P w=c.run P w:=fun c hc w=>by
  rw [←hc w];unfold execOp;rw [ho];simp [resolve,invoke];rfl
 unfold vO;split
 ·rename_i s x st xt;refine az.arg hρ fun sv hsv=>az.arg hρ fun xv hxv=>az.pH (he (do pure (.value (←Builtin.append_ #[st,xt] o.type #[ρ s,ρ x]))) fun w=>?_) (aV (Bx hsv hxv))
  simp [builtin]
 ·rename_i s x st xt;refine az.arg hρ fun sv hsv=>az.arg hρ fun xv hxv=>az.pH (he (do pure (.value (←Builtin.copy_ #[st,xt] o.type #[ρ s,ρ x]))) fun w=>?_) (aV (IU hsv hxv))
  simp [builtin]
 ·rename_i x t;refine az.arg hρ fun xv hxv=>az.pH (he (do pure (.value (←Builtin.len_ #[t] o.type #[ρ x]))) fun w=>?_) (aV (Qg rfl hxv))
  simp [builtin]
 ·rename_i x t;refine az.arg hρ fun xv hxv=>az.pH (he (do pure (.value (←Builtin.cap_ #[t] o.type #[ρ x]))) fun w=>?_) (aV (Qh rfl hxv))
  simp [builtin]
 ·refine az.pH (he (pure .recover) fun w=>rfl) (az.pure fun E1 hE=>trivial)
 all_goals first|exact az.fail|exact gS hρ hs
theorem Ao {x x':Value} {i:Nat} (hx:VR E x x'):az P lo w0 E H (vP x i:M I Value) (Instr.extract x' i) VR:=by
 unfold vP;split
 ·rename_i vs;cases hx with
  |tuple h1 h2=>
   cases hv:vs[i]? with
   |none=>simp only [hv];exact az.fail
   |some v=>
    simp only [hv];rename_i cs;have hi:i<cs.size:=by have:=(Array.getElem?_eq_some_iff.1 hv).1;omega
    exact az.val ⟨cs[i],fun w=>by simp [Instr.extract,hi],h2 v _ i hv (by simp [hi])⟩
 ·exact az.fail
theorem IV {c a b c' a' b':Value} (hc:VR E c c') (ha:VR E a a') (hb:VR E b b'):az P lo w0 E H (Qa c a b:M I Value) (do pure (if←asBool c' then a' else b'):Sem Value) VR:=by
 unfold Qa;split
 ·cases hc;exact az.val ⟨a',fun w=>by simp [asBool],ha⟩
 ·cases hc;exact az.val ⟨b',fun w=>by simp [asBool],hb⟩
 ·exact az.fail
theorem Qi {ev:Ev} {ρ:Operand→Value} (hρ:∀x v,ev x=some v→VR E v (ρ x)) {o:Oper} {op:BinOp} {t yt:TypeId} {x y:Operand} (ho:o.op=.binOp op t x y yt) {xv yv:Value} (hx:VR E xv (ρ x)) (hy:VR E yv (ρ y)):
  az P lo w0 E H (aep P ev o op t xv yv:M I bT) (execOp ρ o) NR:=by
 have hs:∀cs b,o.op≠ .select cs b:=fun cs b e=>by rw [ho] at e;cases e
 have he:∀(v:Value) (w:World),(do eqGuard op t x y (ρ x) (ρ y);binOp op t (ρ x) (ρ y):Sem Value).run P w=.ok v w→(execOp ρ o).run P w=.ok (.value v) w:=fun v w h=>by
  unfold execOp;rw [ho];simp only [Sem.run_bind] at h ⊢;rw [h];rfl
 unfold aep;split
 ·rename_i v hf;have h1:xv=ρ x∧yv=ρ y:=by
   unfold tI at hf;split at hf
   ·constructor
    ·generalize ρ x=q at hx;cases hx;rfl
    ·generalize ρ y=q at hy;cases hy;rfl
   ·cases hf
  rw [h1.1,h1.2] at hf;exact az.leaf (a:=bT.val v) (R:=NR) fun E1 g w hE _ _=>⟨_,he v w (sH (X:=x) (Y:=y) hf w).1,cF E1 0 v (sH (P:=P) (t:=t) (X:=x) (Y:=y) hf w).2⟩
 ·cases hg:(fD 3 xv && fD 3 yv) with
  |true=>exact gS hρ hs
  |false=>
   simp only [cond_false];unfold Qb;split
   ·split
    ·rename_i b hb;exact az.leaf fun E1 g w hE _ _=>⟨_,he _ w (yo hb hx hy x y w).1,.bool b⟩
    ·exact az.fail
   ·split
    ·rename_i b hb;exact az.leaf fun E1 g w hE _ _=>⟨_,he _ w (yo hb hx hy x y w).2,.bool _⟩
    ·exact az.fail
   ·exact az.fail
theorem mZ {v:Value} {c:Sem Next} (h:∃v',(∀w,c.run P w=.ok (.value v') w)∧VR E v v'):az P lo w0 E H (jf (pure v):M I bT) c NR:=by
 obtain⟨v',h1,h2⟩:=h;exact az.congr (m':=pure (.val v)) rfl (az.leaf (a:=bT.val v) (R:=NR) fun E1 g w hE _ _=>⟨.value v',h1 w,h2.mono hE⟩)
theorem oy {X:Hk} (hX:Plain P X w0.w) {ev:Ev} {ρ:Operand→Value} (hρ:∀x v,ev x=some v→VR E v (ρ x)) (o:Oper):
  az P lo w0 E S4 (gH P X lo ev o:M I bT) (execOp ρ o) NR:=by
 obtain⟨dst,op,type,pos,after,guard⟩:=o;cases op with
 |move x=>exact az.arg hρ fun v hv=>mZ ⟨_,fun w=>rfl,hv⟩
 |assign x=>exact az.arg hρ fun v hv=>mZ ⟨_,fun w=>rfl,hv⟩
 |pick c a b=>
  refine az.arg hρ fun cv hc=>az.arg hρ fun av ha=>az.arg hρ fun bv hb=>az.pH (fun w=>?_) (aV (IV hc ha hb))
  simp [execOp]
 |alloc t=>exact aV C0
 |box t x=>exact az.arg hρ fun v hv=>aV (JP hv)
 |build t ps=>
  unfold gH Qc;simp only;split
  ·rename_i vs wA;refine aV (EW ?_);have:=vK hρ _ _ wA
   rwa [←Array.toList_map] at this
  ·exact az.fail
 |buildSlice t n ps=>
  unfold gH sI;simp only;split
  ·rename_i vs wA;refine aV (sY ?_);have:=vK hρ _ _ wA
   rwa [←Array.toList_map] at this
  ·exact az.fail
 |insert t m k x=>exact az.arg hρ fun mv hm=>az.arg hρ fun kv hk=>az.arg hρ fun xv hx=>rE (sJ hm hk hx)
 |load t a=>exact az.arg hρ fun v hv=>aV (Gl hv)
 |store t a x=>exact az.arg hρ fun v hv=>az.arg hρ fun xv hx=>rE (CY hv hx)
 |nilCheck x=>
  refine az.arg hρ fun v hv=>?_
  generalize hq:ρ x=q at hv;unfold ym;split
  ·cases hv with
   |ptr h=>exact mZ ⟨_,fun w=>by simp [execOp,hq],.ptr h⟩
  ·cases hv with
   |iface _ h=>exact mZ ⟨_,fun w=>by simp [execOp,hq],.iface _ h⟩
  ·cases hv with
   |func h1 h2 h3 h4=>exact mZ ⟨_,fun w=>by simp [execOp,hq],.func h1 h2 h3 h4⟩
  ·exact fun s a s' hr=>by obtain⟨a1,s1,h1,h2⟩:=ax hr;exact(au h1).elim
 |binOp op t x y yt=>exact az.arg hρ fun xv hx=>az.arg hρ fun yv hy=>Qi hρ rfl hx hy
 |unOp op t x=>exact gS hρ (fun cs b e=>by cases e)
 |convert s d x=>
  refine az.arg hρ fun v hv=>?_
  unfold aai;split
  ·rename_i u hu;unfold Ge at hu;split at hu
   ·rename_i k n;split at hu
    ·rename_i sd k' h1 h2;cases hu;generalize hq:ρ x=q at hv;cases hv;refine az.leaf (a:=bT.val (.int k' (k'.wrap n))) (R:=NR) fun E1 g w hE _ _=>⟨.value (.int k' (k'.wrap n)), ?_,.int _ _⟩
     simp [execOp,hq,convert,run_underlying h1,run_underlying h2,Conv.intToInt]
    ·cases hu
   ·cases hu
  ·unfold aah;cases hg:fD 3 v with
   |true=>exact gS hρ (fun cs b e=>by cases e)
   |false=>exact aV (PX hv)
 |makeInterface t x=>exact az.arg hρ fun v hv=>aV (A2 hv)
 |makeFunc fn first cap=>
  cases fn with
  |func f=>
   unfold gH aaj;simp only;split
   ·rename_i fs cs hf hc;have h1:=nB hρ hf;have h2:=nB hρ hc;exact az.leaf fun E1 g w hE _ _=>⟨.value (.func (.func f) (first.map ρ) (cap.map ρ)),by simp [execOp,Instr.makeFunc],.func h1.1 (h1.mono hE).2 h2.1 (h2.mono hE).2⟩
   ·exact az.fail
  |_=>exact az.fail
 |makeMap t r=>
  cases r with
  |none=>exact aV (Ap fun w=>rfl)
  |some r=>exact az.fail
 |makeSlice t l c=>exact az.arg hρ fun lv hl=>az.arg hρ fun cv hc=>aV (vQ hl hc)
 |slice t x l h m=>
  unfold gH Qd;simp only;cases hs:isStr P t with
  |true=>exact gS hρ (fun cs b e=>by cases e)
  |false=>
   refine az.arg hρ fun v hv=>?_
   split
   ·rename_i lv hv' mv h1 h2 h3;exact aV (Dl hv (Ac hρ h1) (Ac hρ h2) (Ac hρ h3))
   ·exact az.fail
 |fieldAddr t x f=>exact az.arg hρ fun v hv=>aV (uy hv)
 |field t x f=>exact az.arg hρ fun v hv=>aV (Dh hv)
 |indexAddr t x i=>exact az.arg hρ fun v hv=>az.arg hρ fun iv hi=>aV (uz hv hi)
 |index t x i=>
  unfold gH Qe;simp only;cases hs:isStr P t with
  |true=>exact gS hρ (fun cs b e=>by cases e)
  |false=>exact az.arg hρ fun v hv=>az.arg hρ fun iv hi=>aV (Dj hv hi)
 |lookup t x i ok=>exact az.arg hρ fun v hv=>az.arg hρ fun iv hi=>aV (Ci hv hi)
 |mapUpdate t m k x=>exact az.arg hρ fun mv hm=>az.arg hρ fun kv hk=>az.arg hρ fun xv hx=>rE (sJ hm hk hx)
 |range t x=>exact az.arg hρ fun v hv=>aV (EX hv)
 |next it nG=>exact az.arg hρ fun v hv=>aV (IW hv)
 |typeAssert x xT t ok=>exact az.arg hρ fun v hv=>aV (A3 hv)
 |extract t i=>exact az.arg hρ fun v hv=>aV (Ao hv)
 |call c=>
  obtain⟨callee,args,ts⟩:=c;cases callee with
  |value f=>exact IQ hX hρ
  |builtin b=>exact Al hρ rfl
  |invoke r m=>exact az.fail
 |defer c=>
  obtain⟨callee,args,ts⟩:=c;cases callee with
  |value f=>exact EU hρ
  |builtin b=>exact az.fail
  |invoke r m=>exact az.fail
 |_=>exact az.fail
end Go.Am
/- A part of the proof. Conditions: none. -/
set_option maxRecDepth 100000
set_option maxHeartbeats 8000000
namespace Go.Am
open Go Go.RowKit
noncomputable section
variable {μ:Type} {I:ir μ} {P:Program} {lo:eK} {w0:Bs} {E:Env} {H:(Nat→Option Obj)→Prop}
structure aD where
 n:Nat
 t:Trie Value
 defers:List Deferred
def aD.val (a:aD) (i:Nat):Value:=(a.t.get i).getD undef
def yG (lo:eK) (a:aD):Ev
 | .tmp i=>some (a.val i)
 | .const v=>bif fD 3 v then some v else none
 | .global g=>bif Nat.blt g lo.G then some (.pointer (some ⟨g,0,none⟩)) else none
 | .func f=>some (.func (.func f) #[] #[])
def iP (a:aD) (dst:Option Tmp) (v:Value):M I aD:=match dst with
 |none=>pure a
 |some d=>bif Nat.blt d a.n && Nat.blt d 4095 then pure ⟨a.n,a.t.set 12 d (some v),a.defers⟩ else fail
structure kB (E:Env) (a:aD) (ca:Act):Prop where
 size:ca.tmps.size=a.n
 val:∀i,VR E (a.val i) (ca.tmps.getD i undef)
 len:a.defers.length=ca.defers.length
 defers:∀(j:Nat) (d d':Deferred),a.defers[j]?=some d→ca.defers[j]?=some d'→DR E d d'
theorem DR.mono {E E':Env} (hE:∀k x,E k=some x→E' k=some x) {d d':Deferred} (h:DR E d d'):DR E' d d':=by
 rcases h with⟨f,c,c',h1,h2,h3,h4⟩|⟨k,b,q,h1,h2,h3⟩
 ·exact .inl ⟨f,c,c',h1,h2,h3.mono hE,h4.mono hE⟩
 ·exact .inr ⟨k,b,q,h1,h2,hE _ _ h3⟩
theorem kB.mono {E E':Env} (hE:∀k x,E k=some x→E' k=some x) {a:aD} {ca:Act} (h:kB E a ca):kB E' a ca:=
 ⟨h.size,fun i=>(h.val i).mono hE,h.len,fun j d d' h1 h2=>(h.defers j d d' h1 h2).mono hE⟩
theorem kB.ev {a:aD} {ca:Act} (h:kB E a ca) (hold:∀k,k<lo.G→E k=some (k,0)):∀x v,yG lo a x=some v→VR E v (ca.eval x):=by
 intro x v hv;cases x with
 |tmp i=>simp [yG] at hv;subst hv;exact h.val i
 |const u=>
  exact L6
 |global g=>
  exact L8
 |func f=>simp [yG] at hv;subst hv;exact .func rfl (fun _ _ j h=>by simp at h) rfl (fun _ _ j h=>by simp at h)
theorem kB.put {a a':aD} {ca:Act} {dst:Option Tmp} {v v':Value} {s s':St μ} (h:kB E a ca) (hv:VR E v v') (hr:(iP a dst v:M I aD).run s=some (a',s')):s'=s∧kB E a' (ca.put dst v'):=by
 unfold iP at hr;cases dst with
 |none=>obtain⟨rfl,rfl⟩:=pure_run hr;exact⟨rfl,h⟩
 |some d=>
  cases hb:(Nat.blt d a.n && Nat.blt d 4095) with
  |false=>simp only [hb] at hr;exact(au hr).elim
  |true=>
   simp only [hb] at hr;obtain⟨rfl,rfl⟩:=pure_run hr;rw [blt_eq,blt_eq] at hb;simp only [Bool.and_eq_true,decide_eq_true_eq] at hb;refine⟨rfl,⟨by simp [Act.put,h.size],fun i=>?_,h.len,h.defers⟩⟩;have hval:aD.val ⟨a.n,a.t.set 12 d (some v),a.defers⟩ i=if i=d then v else a.val i:=by
    unfold aD.val;rw [Trie.tj 12 a.t d i (some v) aa];split<;>rfl
   rw [hval];by_cases e:i=d
   ·subst e;have hlt:i<ca.tmps.size:=by rw [h.size];exact hb.1
    simp [Act.put,hlt];exact hv
   ·have:=h.val i;have hne:¬(d=i):=fun h=>e h.symm
    simp [Act.put,e,Array.getElem?_setIfInBounds,hne] at this ⊢;exact this
inductive bX where
 |normal
 |exit (id:Nat)
 |ret
 |panic (v:Value)
def yI (E:Env):bX→Exit→Prop
 | .normal,.normal=>True
 | .exit i,.exit j=>i=j
 | .ret,.ret=>True
 | .panic v,.panic c=>∃v',c=[{v:=v',recovered:=false}]∧VR E v v'
 |_,_=>False
inductive fS where
 |ret (v:Value)
 |panic (v:Value)
def Rh (E:Env):fS→Ending→Prop
 | .ret v,.returned v'=>VR E v v'
 | .panic v,.panicked c=>∃v',c=[{v:=v',recovered:=false}]∧VR E v v'
 |_,_=>False
def ue:List Value→Nat→Trie Value→Trie Value
 |[],_,t=>t
 |v::l,i,t=>ue l (i+1) (t.set 12 i (some v))
theorem qH:∀(l:List Value) (i:Nat) (t:Trie Value) (j:Nat),i+l.length≤4094→(ue l i t).get j=if i≤j∧j<i+l.length then l[j - i]? else t.get j
 |[],i,t,j,h=>by simp [ue];intro h1 h2;omega
 |v::l,i,t,j,h=>by
  simp only [ue];rw [qH l (i+1) _ j (by simp at h;omega),Trie.tj 12 t i j (some v) (by simp at h;omega)];simp only [List.length_cons];by_cases e:j=i
  ·subst e;rw [if_neg aa,if_pos rfl,if_pos aa];simp
  ·rw [if_neg e];by_cases e2:i≤j∧j<i+(l.length+1)
   ·rw [if_pos e2,if_pos aa,show j - i=(j - (i+1))+1 by omega];simp
   ·rw [if_neg e2,if_neg aa]
structure Self (I:ir μ) where
 code:Option Nat→Code→aD→M I (bX × aD)
 call:FuncId→Array Value→M I fS
def jT (ops:Array Oper) (a:aD) (j:Nat):Option Bool:=match (ops[j]?).bind (·.dst) with
 |some d=>bif Nat.blt d a.n then match a.val d with
  | .bool b=>some b
  |_=>none
  else none
 |none=>none
def gT (ops:Array Oper) (a:aD) (o:Oper):Bool:=match o.guard with
 |none=>true
 |some (j,want)=>match jT ops a j with
  |some b=>bif want then b else !b
  |none=>false
theorem ug {ops:Array Oper} {a:aD} {ca:Act} (h:kB E a ca) (o:Oper):Region.wanted o (yielded ops ca.tmps)=gT ops a o:=by
 unfold Region.wanted gT;cases hg:o.guard with
 |none=>rfl
 |some jw=>
  obtain⟨j,want⟩:=jw;simp only;have hy:yielded ops ca.tmps j=jT ops a j:=by
   unfold yielded jT;cases hd:(ops[j]?).bind (·.dst) with
   |none=>rfl
   |some d=>
    simp only [Option.bind_some,blt_eq,←h.size];have hv:=h.val d;exact X8
  exact L9
def xF (a:aD) (o:Oper) (k:aD→M I (bX × aD)) (e:fS):M I (bX × aD):=match e with
 | .ret v=>iP a o.dst v>>=k
 | .panic v=>pure (.panic v,a)
def Ma (lo:eK) (k:Nat):M I Unit:=rd k>>=fun o=>match o with
 | .loop r=>match r.state with
  | .ready=>wr lo k (some (.loop {r with state:=.busy}))
  |_=>fail
 |_=>fail
def jU (lo:eK) (k:Nat) (jump:Option Code):M I fS:=rd k>>=fun o=>match o with
 | .loop r=>wr lo k (some (.loop {r with state:=if jump.isNone then .ready else .done,pending:=jump}))>>=fun _=>pure (.ret (.bool jump.isNone))
 |_=>fail
def aaX (lo:eK) (k:Nat) (r:bX × aD):M I fS:=match r.1 with
 | .normal=>jU lo k none
 | .ret=>jU lo k (some .ret)
 | .exit id=>jU lo k (some (.exit id))
 | .panic _=>fail
def Mb (lo:eK) (self:Self I) (k:Nat) (body:Code) (r:bX × aD):M I fS:=match r.1 with
 | .normal=>Ma lo k>>=fun _=>self.code (some k) body r.2>>=aaX lo k
 |_=>fail
def zq (lo:eK) (self:Self I) (k:Nat) (ts:Array Value) (assign body:Code):M I fS:=
 bif Nat.blt ts.size 4000 then self.code (some k) assign ⟨ts.size,ue ts.toList 0 .leaf,[]⟩>>=Mb lo self k body else fail
def Fv (ρ:Option Nat):Bool:=match ρ with
 |none=>true
 |some _=>false
def zu (lo:eK) (ρ:Option Nat) (self:Self I) (a:aD) (o:Oper) (k:aD→M I (bX × aD)) (r:bT):M I (bX × aD):=match r with
 | .val v=>iP a o.dst v>>=k
 | .call f args=>self.call f args>>=xF a o k
 | .defer d=>bif Fv ρ then iP ⟨a.n,a.t,d::a.defers⟩ o.dst undef>>=k else fail
 | .round l ts b c=>zq lo self l ts b c>>=xF a o k
 |_=>fail
def Mc (a:aD) (v:Value):M I (bX × aD):=match v with
 | .iface _ _=>pure (.panic v,a)
 |_=>fail
def Md (lo:eK) (a:aD) (x:Operand):M I (bX × aD):=arg (yG lo a) x>>=Mc a
def opB (P:Program) (X:Hk) (lo:eK) (ρ:Option Nat) (self:Self I) (a:aD) (o:Oper) (k:aD→M I (bX × aD)):M I (bX × aD):=match o.op with
 | .panic x=>Md lo a x
 |_=>gH P X lo (yG lo a) o>>=zu lo ρ self a o k
def mz (P:Program) (X:Hk) (lo:eK) (ρ:Option Nat) (self:Self I) (ops:Array Oper):List Oper→aD→M I (bX × aD)
 |[],a=>pure (.normal,a)
 |o::rest,a=>bif gT ops a o then opB P X lo ρ self a o (mz P X lo ρ self ops rest) else iP a o.dst undef>>=mz P X lo ρ self ops rest
def DG (k:aD→M I (bX × aD)) (r:bX × aD):M I (bX × aD):=match r with
 |(.normal,a1)=>k a1
 |r=>pure r
def LG (self:Self I) (ρ:Option Nat) (c:Code):Nat→aD→M I (bX × aD)
 |0,_=>fail
 |m+1,a=>self.code ρ c a>>=DG (LG self ρ c m)
def gj (P:Program) (lo:eK) (w0:Bs) (call:FuncId→Array Value→M I fS):Prop:=
 ∀f args s r s',(call f args).run s=some (r,s')→∀E g w cj,Rel P lo w0 E g w→dx I s s' g→fN s s' E→fU E args cj→
  Calls P f cj w fun e w'=>∃E',Env.Ext E E' s.next s'.next∧Rh E' r e∧Rel P lo w0 E' (merge I s' g) w'
def qJ (ρ:Option Nat):Fence:={Fence.wide with round:=ρ}
def Me (E:Env) (ρ ρ':Option Nat):Prop:=match ρ,ρ' with
 |none,none=>True
 |some k,some b=>∃q,E k=some (b,q)
 |_,_=>False
theorem Me.mono {E E':Env} (hE:∀k x,E k=some x→E' k=some x) {ρ ρ':Option Nat} (h:Me E ρ ρ'):Me E' ρ ρ':=by
 cases ρ<;>cases ρ'<;>first|exact h|skip
 obtain⟨q,hq⟩:=h;exact⟨q,hE _ _ hq⟩
def kR (P:Program) (lo:eK) (w0:Bs) (ρ:Option Nat) (m:M I (bX × aD)) (a:aD) (C:Option Nat→(Exit→Act→World→Prop)→Act→World→Prop):Prop:=
 ∀s e a' s',m.run s=some ((e,a'),s')→∀E g w ca Q ρ',Me E ρ ρ'→Rel P lo w0 E g w→dx I s s' g→fN s s' E→kB E a ca→
  (∀E' ce lT w',Env.Ext E E' s.next s'.next→yI E' e ce→kB E' a' lT→Rel P lo w0 E' (merge I s' g) w'→Q ce lT w')→C ρ' Q ca w
def gm (P:Program) (lo:eK) (w0:Bs) (code:Option Nat→Code→aD→M I (bX × aD)):Prop:=
 ∀ρ c a,kR P lo w0 ρ (code ρ c a) a (fun ρ' Q ca w=>c.wpIn (qJ ρ') 0 P Q ca w)
theorem iF {ρ':Option Nat} (h:(qJ ρ').depth.isSome=true):1≤0:=by simp [qJ,Fence.wide] at h
theorem mD {ρ':Option Nat} {f:FuncId} {args:Array Value} {w:World} {R:Ending→World→Prop} (h:Calls P f args w R):CallsIn (qJ ρ') (0 - 1) P f args w R:=callsIn_wide.2 h
theorem Gs {f:FuncId} {args:Array Value} {w:World} {R:Ending→World→Prop} (h:CallsIn (qJ none) 0 P f args w R):Calls P f args w R:=callsIn_wide.1 h
theorem chain {α:Type} {m:M I α} {a:α} {s s1 s':St μ} {g:Nat→Option Obj} {E E1:Env} (h1:m.run s=some (a,s1)) (h2:St.Le I s1 s') (hA:dx I s s' g) (hF:fN s s' E) (hx:Env.Ext E E1 s.next s1.next):
  dx I s1 s' (merge I s1 g)∧fN s1 s' E1∧(∀E',Env.Ext E1 E' s1.next s'.next→Env.Ext E E' s.next s'.next)∧merge I s' (merge I s1 g)=merge I s' g:=
 ⟨hA.second (m.le _ _ _ h1) h2,hF.second hx (m.le _ _ _ h1).next,fun E' h=>hx.trans h (m.le _ _ _ h1).next h2.next,jq g h2⟩
theorem DI {X:Hk} {ev:Ev} {o:Oper} {r:bT} {s s1:St μ} (h:(gH P X lo ev o:M I bT).run s=some (r,s1)) (hne:∀d,r≠ .defer d) (ρ':Option Nat) (ρv:Operand→Value):Oper.semAt ρ' ρv o=execOp ρv o:=by
 rw [Oper.semAt_eq];intro c hc0;unfold gH at h;rw [hc0] at h;simp only [DJ] at h;split at h
 ·unfold uO at h;split at h
  ·obtain⟨h,_⟩:=pure_run h;exact hne _ h
  ·exact(au h).elim
 ·exact(au h).elim
theorem DK {E:Env} {ts cs:Array Value} (hsz:ts.size<4000) (h:fU E ts cs):kB E ⟨ts.size,ue ts.toList 0 .leaf,[]⟩ {tmps:=cs,defers:=[]}:=by
 refine⟨h.1.symm,fun i=>?_,rfl,fun j d d' h=>by simp at h⟩;unfold aD.val;simp only;rw [qH ts.toList 0 .leaf i cr];simp only [Nat.zero_le,true_and,Nat.zero_add,Nat.sub_zero,Array.length_toList];by_cases hi:i<ts.size
 ·rw [if_pos hi];have hi':i<cs.size:=by rw [←h.1];exact hi
  have:=h.2 ts[i] cs[i] i (by simp [hi]) (by simp [hi']);simpa [hi,hi'] using this
 ·rw [if_neg hi];have hi':¬i<cs.size:=by rw [←h.1];exact hi
  have:cs.getD i undef=undef:=by simp [hi']
  rw [this];exact VR.undef E
theorem nP {w:World} {b:Nat} {o co:Obj} (h:w.heap[b]?=some o):ek b co w (w.putObj b co):=
 ⟨rfl,rfl,rfl,World.putObj_size,World.putObj_heap_same (Array.getElem?_eq_some_iff.1 h).1,fun i hi=>World.putObj_heap_other hi⟩
theorem tq {E:Env} {g:Nat→Option Obj} {w:World} {k b q:Nat} {r:Loop} (hR:Rel P lo w0 E g w) (hg:g k=some (.loop r)) (hk:E k=some (b,q)):
  ∃y q',w.heap[b]?=some (.loop y)∧y.state=r.state∧y.pending=r.pending∧y.params=r.params∧y.assign=r.assign∧y.body=r.body∧fU E r.tmps y.tmps∧E r.defers=some (y.defers,q'):=by
 obtain⟨b',r',co,h1,h2,h3⟩:=hR.tie _ _ hg;rw [hk] at h1;cases h1;cases h3 with
 | @loop _ y q' g1 g2 g3 g4 g5 g6 g7 g8=>exact⟨y,q',h2,g1,g2,g3,g4,g5,⟨g6,g7⟩,g8⟩
theorem zv {k b q:Nat} {r r':Loop} {s s1 s':St μ} {u:Unit} (h1:(rd k:M I Obj).run s=some (.loop r,s1)) (h2:(wr lo k (some (.loop r')):M I Unit).run s1=some (u,s'))
  {E:Env} {g:Nat→Option Obj} {w:World} (hR:Rel P lo w0 E g w) (hA:dx I s s' g) (hk:E k=some (b,q)) {y y':Loop} (hy:w.heap[b]?=some (.loop y)) (ho:∀q,OR P E q (.loop r') (.loop y')):
  s'.next=s.next∧Rel P lo w0 E (merge I s' g) (w.putObj b (.loop y')):=by
 obtain⟨e1,e2,e3,e4,e5⟩:=jA h1;obtain⟨w1,⟨o0,w2⟩,w3,w4,w5,w6⟩:=qL h2;have l1:=(rd (I:=I) k).le _ _ _ h1;have l2:=(wr (I:=I) lo k (some (.loop r'))).le _ _ _ h2;have hm:merge I s1 g=g:=dA (hA.first l2) (fun k=>by rw [e4]) (fun k=>by rw [e3]);have gY:dx I s1 s' g:=Bj;have hg:g k=some (.loop r):=Mf;refine⟨by rw [w3,e2], ?_⟩;rw [eO gY w5 w6];exact hR.write hg hk w1 (nP hy) (ho q)
theorem Bk {self:Self I} (ki:gm P lo w0 self.code) {k:Nat} {ts:Array Value} {assign body:Code} {s s':St μ} {r:fS} (hr:(zq lo self k ts assign body).run s=some (r,s'))
  {E:Env} {g:Nat→Option Obj} {w:World} {b q:Nat} {f:FuncId} {cs:Array Value} {ρ':Option Nat} (hR:Rel P lo w0 E g w) (hA:dx I s s' g) (hF:fN s s' E) (hk:E k=some (b,q)) (wj:fU E ts cs):
  RoundIn (qJ ρ') (0 - 1) P b f cs assign body w fun e w'=>∃E',Env.Ext E E' s.next s'.next∧Rh E' r e∧Rel P lo w0 E' (merge I s' g) w':=by
 unfold zq at hr;cases hsz:Nat.blt ts.size 4000 with
 |false=>rw [hsz] at hr;exact(au hr).elim
 |true=>
  rw [hsz,cond_true] at hr;rw [blt_eq,decide_eq_true_eq] at hsz;obtain⟨⟨e1,a1⟩,s1,h1,h2⟩:=ax hr;have hle:St.Le I s1 s':=M.le _ _ _ _ h2;refine roundIn_of_wpIn (F:=qJ ρ') trivial ?_;refine ki (some k) assign _ s e1 a1 s1 h1 E g w _ _ (some b) ⟨q,hk⟩ hR (hA.first hle) (hF.first hle.next) (DK hsz wj) fun E1 ce ni w1 hx1 rN ha1 pq=>?_
  obtain⟨gY,lU,lD,nh⟩:=chain h1 hle hA hF hx1;unfold Mb at h2;cases e1 with
  |normal=>
   cases ce<;>simp only [yI] at rN<;>first|exact rN.elim|skip
   simp only at h2;obtain⟨u,s2,h3,h4⟩:=ax h2;have iQ:St.Le I s2 s':=M.le _ _ _ _ h4;unfold Ma at h3;obtain⟨ob,s3,h5,h6⟩:=ax h3;have aR:=hx1.keep _ _ hk;cases ob with
   |loop x=>
    simp only at h6;cases hst:x.state with
    |ready=>
     rw [hst] at h6;simp only at h6;have hgx:merge I s1 g k=some (.loop x):=by
      obtain⟨e1',e2',e3',e4',e5'⟩:=jA h5;have l6:=M.le _ _ _ _ h6;rw [(gY.first iQ) k (by rw [l6.T k e5',Bool.true_or]),e1']
     obtain⟨y,q',y0,y1,y2,y3,y4,y5,y6,y7⟩:=tq pq hgx aR;obtain⟨n1,qI⟩:=zv h5 h6 pq (gY.first iQ) aR y0 (y':={y with state:=.busy}) (fun q=>.loop rfl y2 y3 y4 y5 y6.1 y6.2 y7);refine⟨w1.putObj b (.loop {y with state:=.busy}),run_beginRound y0 (by rw [y1,hst]), ?_⟩;have hx2:Env.Ext E1 E1 s1.next s2.next:=⟨fun _ _ h=>h,fun _ h=>.inl h⟩;obtain⟨Av,hF2,qC,yJ⟩:=chain h3 iQ gY lU hx2;obtain⟨⟨e2,a2⟩,s4,h7,h8⟩:=ax h4;have aaY:St.Le I s4 s':=M.le _ _ _ _ h8;refine ki (some k) body a1 s2 e2 a2 s4 h7 E1 _ _ ni _ (some b) ⟨q,aR⟩ qI (Av.first aaY) (hF2.first aaY.next) ha1 fun E2 ce2 ca2 w2 hx3 Jb ha2 hR3=>?_
     obtain⟨hA3,hF3,hX3,hm3⟩:=chain h7 aaY Av hF2 hx3;have hk2:=hx3.keep _ _ aR;have fin:∀(jump:Option Code),(jU lo k jump:M I fS).run s4=some (r,s')→∃v w',(Instr.endRound b jump).run P w2=.ok v w'∧∃E',Env.Ext E E' s.next s'.next∧Rh E' r (.returned v)∧Rel P lo w0 E' (merge I s' g) w':=fun jump hj=>by
      unfold jU at hj;obtain⟨ob2,s5,j1,j2⟩:=ax hj;cases ob2 with
      |loop z=>
       simp only at j2;obtain⟨u2,s6,j3,j4⟩:=ax j2;obtain⟨j5,rfl⟩:=pure_run j4;subst j5;have hgz:merge I s4 (merge I s2 (merge I s1 g)) k=some (.loop z):=by
        obtain⟨e1',e2',e3',e4',e5'⟩:=jA j1;have l6:=M.le _ _ _ _ j3;rw [hA3 k (by rw [l6.T k e5',Bool.true_or]),e1']
       obtain⟨y',q2,z0,z1,z2,z3,z4,z5,z6,z7⟩:=tq hR3 hgz hk2;obtain⟨n2,hR4⟩:=zv j1 j3 hR3 hA3 hk2 z0 (y':={y' with state:=if jump.isNone then .ready else .done,pending:=jump}) (fun q=>.loop rfl rfl z3 z4 z5 z6.1 z6.2 z7);refine⟨_,_,run_endRound jump z0,E2, ?_,.bool _, ?_⟩
       ·exact lD E2 (qC E2 (hX3 E2 ⟨fun _ _ h=>h,fun _ h=>.inl h⟩))
       ·rw [hm3,yJ,nh] at hR4;exact hR4
      |_=>exact(au j2).elim
     cases e2 with
     |normal=>
      cases ce2<;>simp only [yI] at Jb<;>first|exact Jb.elim|skip
      exact fin none h8
     |ret=>
      cases ce2<;>simp only [yI] at Jb<;>first|exact Jb.elim|skip
      exact fin (some .ret) h8
     |exit id=>
      cases ce2<;>simp only [yI] at Jb<;>first|exact Jb.elim|skip
      subst Jb;exact fin (some (.exit id)) h8
     |panic v=>exact(au h8).elim
    |_=>rw [hst] at h6;exact(au h6).elim
   |_=>exact(au h6).elim
  |_=>exact(au h2).elim
theorem iJ {X:Hk} (hX:Plain P X w0.w) {self:Self I} (ki:gm P lo w0 self.code) (hc:gj P lo w0 self.call) {ops:Array Oper} {ρ:Option Nat}:∀(l:List Oper) (a:aD),kR P lo w0 ρ (mz P X lo ρ self ops l a) a (fun ρ' Q ca w=>wpListIn (qJ ρ') 0 P ops Q l ca w)
 |[],a=>by
  intro s e a' s' hr E g w ca Q ρ' hρ hR hA hF ha hQ;obtain⟨h1,rfl⟩:=pure_run hr;cases h1;exact hQ E .normal ca w (.refl _ _) trivial ha xg
 |o::rest,a=>by
  intro s e a' s' hr E g w ca Q ρ' hρ hR hA hF ha hQ;have hw:=ug (ops:=ops) ha o;unfold mz at hr;unfold wpListIn;rw [hw];cases QD:gT ops a o with
  |false=>
   simp only [QD,cond_false] at hr;obtain⟨a1,s1,h1,h2⟩:=ax hr;obtain⟨rfl,ha1⟩:=ha.put (VR.undef E) h1;rw [if_neg ak];exact⟨fun _ _=>trivial,iJ hX ki hc rest a1 _ e a' s' h2 E g w _ Q ρ' hρ hR hA hF ha1 hQ⟩
  |true=>
   simp only [QD,cond_true] at hr;rw [if_pos rfl];refine⟨fun _ _=>trivial, ?_⟩;have hev:=ha.ev (lo:=lo) hR.old;by_cases hp:∃x,o.op=.panic x
   ·obtain⟨x,hx⟩:=hp;unfold opB at hr;rw [hx] at hr;simp only at hr;unfold Md arg at hr;cases hv:yG lo a x with
    |none=>rw [hv] at hr;obtain⟨_,_,h1,_⟩:=ax hr;exact(au h1).elim
    |some v=>
     rw [hv] at hr;obtain⟨v1,s1,h1,h2⟩:=ax hr;obtain⟨rfl,rfl⟩:=pure_run h1;unfold Mc at h2;split at h2
     ·rename_i t u;obtain⟨h3,rfl⟩:=pure_run h2;cases h3;have hvr:=hev _ _ hv;generalize hq:ca.eval x=q at hvr;cases hvr with
      |iface _ hu=>
       rename_i u';have hrun:(execOp ca.eval o).run P w=.halt (.panic (.iface t u')) w:=by
        unfold execOp;rw [hx];simp [hq,Instr.panic]
       rw [Oper.semAt_eq _ _ _ (by rw [hx];intro c h;cases h),hrun];exact hQ E (.panic [{v:=.iface t u',recovered:=false}]) ca w (.refl _ _) ⟨_,rfl,.iface t hu⟩ ha xg
     ·exact(au h2).elim
   ·have hnp:opB P X lo ρ self a o (mz P X lo ρ self ops rest)=(gH P X lo (yG lo a) o>>=zu lo ρ self a o (mz P X lo ρ self ops rest)):=by
     unfold opB;split
     ·rename_i x hx;exact absurd ⟨x,hx⟩ hp
     ·rfl
    rw [hnp] at hr;obtain⟨r,s1,h1,h2⟩:=ax hr;have iQ:St.Le I s1 s':=M.le _ _ _ _ h2;obtain⟨E1,nx,w1,hrun,hx1,qB,pq⟩:=oy (lo:=lo) (w0:=w0) (E:=E) hX hev o s r s1 h1 E g w (fun _ _ h=>h) hR (hA.first iQ) (hF.first iQ.next) trivial;obtain⟨gY,lU,lD,nh⟩:=chain h1 iQ hA hF hx1;have ha1:=ha.mono hx1.keep;have aaZ:(∀d,r≠ .defer d)→(o.semAt (qJ ρ').round ca.eval).run P w=(execOp ca.eval o).run P w:=fun hne=>by
     rw [Oper.semAt_eq];intro c hc0;have:∃d,r=.defer d:=by
      have h9:=h1;unfold gH at h9;rw [hc0] at h9;simp only [DJ] at h9;split at h9
      ·unfold uO at h9;split at h9
       ·obtain⟨h9,_⟩:=pure_run h9;exact⟨_,h9⟩
       ·exact(au h9).elim
      ·exact(au h9).elim
     obtain⟨d,hd⟩:=this;exact hne d hd
    cases r with
    |val v=>
     rw [aaZ (fun d h=>by cases h),hrun];obtain⟨a1,s2,h3,h4⟩:=ax h2;have key:∀v',VR E1 v v'→wpListIn (qJ ρ') 0 P ops Q rest (ca.put o.dst v') w1:=fun v' hv'=>by
      obtain⟨rfl,ha2⟩:=ha1.put hv' h3;refine iJ hX ki hc rest a1 _ e a' s' h4 E1 _ w1 _ Q ρ' (hρ.mono hx1.keep) pq gY lU ha2 fun E' ce lT w' Mg CC ha' tu=>hQ E' ce lT w' (lD E' Mg) CC ha' (by rw [nh] at tu;exact tu)
     exact JW
    |call f args=>
     rw [aaZ (fun d h=>by cases h),hrun];cases nx<;>simp only [NR] at qB<;>first|exact qB.elim|skip
     rename_i f' cs;obtain⟨rfl,cG⟩:=qB;obtain⟨en,s2,h3,h4⟩:=ax h2;have jK:St.Le I s2 s':=M.le _ _ _ _ h4;have uP:=hc f args s1 en s2 h3 E1 _ w1 cs pq (gY.first jK) (lU.first jK.next) cG;rw [Oper.uponIn_enter];refine⟨iF,mD (uP.mono fun e2 w2 ⟨E2,hx2,hen,qI⟩=>?_)⟩;exact X9
    |defer d=>
     unfold zu at h2;simp only at h2;cases ρ with
     |some l=>exact(au h2).elim
     |none=>
     cases ρ' with
     |some l'=>exact hρ.elim
     |none=>
     simp only [Fv,cond_true] at h2;change Oper.uponIn (qJ none) 0 P o ca _ Q ((execOp ca.eval o).run P w);rw [hrun];cases nx<;>simp only [NR] at qB<;>first|exact qB.elim|skip
     rename_i d';obtain⟨a1,s2,h3,h4⟩:=ax h2;have ha2:kB E1 ⟨a.n,a.t,d::a.defers⟩ {ca with defers:=d'::ca.defers}:=⟨ha1.size,ha1.val,by simp [ha1.len],fun j x y hx hy=>by
      rcases j with _|j
      ·simp at hx hy;subst hx;subst hy;exact qB
      ·simp at hx hy;exact ha1.defers j x y hx hy⟩
     obtain⟨rfl,ha3⟩:=ha2.put (VR.undef E1) h3;refine iJ hX ki hc rest a1 _ e a' s' h4 E1 _ w1 _ Q none trivial pq gY lU ha3 fun E' ce lT w' Mg CC ha' tu=>hQ E' ce lT w' (lD E' Mg) CC ha' (by rw [nh] at tu;exact tu)
    |round l ts b c=>
     rw [aaZ (fun d h=>by cases h),hrun];cases nx<;>simp only [NR] at qB<;>first|exact qB.elim|skip
     rename_i l' f' cs b' c';obtain⟨rfl,rfl,⟨q,hq⟩,cG⟩:=qB;obtain⟨en,s2,h3,h4⟩:=ax h2;have jK:St.Le I s2 s':=M.le _ _ _ _ h4;have uP:=Bk (ρ':=ρ') (f:=f') ki h3 pq (gY.first jK) (lU.first jK.next) hq cG;rw [Oper.uponIn_round];refine⟨iF,(uP.mono fun e2 w2 ⟨E2,hx2,hen,qI⟩=>?_)⟩;exact X9
    |panic v=>exact(au h2).elim
    |recover=>exact(au h2).elim
end
end Go.Am
/- A part of the proof. Conditions: none. -/
set_option maxRecDepth 100000
set_option maxHeartbeats 8000000
namespace Go.Am
open Go Go.RowKit
noncomputable section
variable {μ:Type} {I:ir μ} {P:Program} {lo:eK} {w0:Bs} {E:Env}
def alone {α:Type} (m:M I α):M I (α × Nat × Nat):=⟨fun s=>match m.run ⟨s.next,s.mem,0,0⟩ with
  |none=>none
  |some (a,s')=>some ((a,s'.T,s'.W),⟨s'.next,s'.mem,s.T|||s'.T,s.W|||s'.W⟩),fun s a s' h=>by
 cases e:m.run ⟨s.next,s.mem,0,0⟩ with
 |none=>rw [e] at h;cases h
 |some x=>
  obtain⟨b,s1⟩:=x;rw [e] at h;cases h;have hl:=m.le _ _ _ e;refine⟨hl.next,fun k hk=>by simp [Nat.testBit_or,hk],fun k hk=>by simp [Nat.testBit_or,hk],fun k hk=>?_⟩;simp [Nat.testBit_or] at hk;exact hl.mem k hk.2⟩
theorem G9 {α:Type} {m:M I α} {s s':St μ} {a:α} {T W:Nat} (h:(alone m).run s=some ((a,T,W),s')):
  m.run ⟨s.next,s.mem,0,0⟩=some (a,⟨s'.next,s'.mem,T,W⟩)∧s'.T=s.T|||T∧s'.W=s.W|||W:=by
 simp only [alone] at h;cases e:m.run ⟨s.next,s.mem,0,0⟩ with
 |none=>rw [e] at h;cases h
 |some x=>
  obtain⟨b,s1⟩:=x;rw [e] at h;cases h;exact⟨rfl,rfl,rfl⟩
def evO (lo:eK) (ops:Array Oper) (o:Oper) (a:aD):Ev
 | .tmp t=>bif (o.looksAt ops).contains t then some (a.val t) else none
 |x=>yG lo a x
def agl (e:fS):M I Value:=match e with
 | .ret v=>pure v
 | .panic _=>fail
def ajy (lo:eK) (self:Self I) (r:bT):M I Value:=match r with
 | .val v=>pure v
 | .call f args=>self.call f args>>=agl
 | .round l ts b c=>zq lo self l ts b c>>=agl
 |_=>fail
def DO (P:Program) (X:Hk) (lo:eK) (self:Self I) (ops:Array Oper) (o:Oper) (a:aD):M I Value:=
 bif gT ops a o then gH P X lo (evO lo ops o a) o>>=ajy lo self else pure undef
structure Mk where
 T:Nat
 W:Nat
def abm (P:Program) (X:Hk) (lo:eK) (self:Self I) (ops:Array Oper):List Oper→aD→M I (aD × List Mk)
 |[],a=>pure (a,[])
 |o::rest,a=>alone (DO P X lo self ops o a)>>=fun r=>iP a o.dst r.1>>=fun a'=>abm P X lo self ops rest a'>>=fun q=>pure (q.1,⟨r.2.1,r.2.2⟩::q.2)
def DT (ops:Array Oper) (o p:Oper) (x y:Mk):Bool:=o.apart ops p && Nat.beq (x.W &&& (y.T|||y.W)) 0 && Nat.beq (x.T &&& y.W) 0
def qW (acc:List Nat):List Edge→Nat
 |[]=>0
 |e::l=>bif Region.binds .any e then(qW acc l|||1<<<e.on)|||acc.getD e.on 0 else qW acc l
def nL:List Oper→List Nat→List Nat
 |[],acc=>acc
 |o::l,acc=>nL l (acc++[qW acc o.after.toList])
def zB (ops:Array Oper) (bef:List Nat) (ms:List Mk):Bool:=
 (ms.zipIdx.all fun(y,j)=>ms.zipIdx.all fun(x,i)=> !Nat.blt i j||(bef.getD j 0).testBit i||match ops[i]?,ops[j]? with
  |some o,some p=>DT ops o p x y
  |_,_=>false) && ops.toList.zipIdx.all fun(o,i)=>o.after.all fun e=> !Region.binds .any e||Nat.blt e.on i
def FA (P:Program) (X:Hk) (lo:eK) (self:Self I) (ops:Array Oper) (a:aD):M I (bX × aD):=
 abm P X lo self ops ops.toList a>>=fun q=>bif zB ops (nL ops.toList []) q.2 then pure (.normal,q.1) else fail
def zC (n i:Nat) (o:Oper):Bool:=(o.after.all fun e=> !Region.binds .any e||Nat.blt e.on i) && match o.guard with
 |some (j,_)=>Nat.blt j n
 |none=>true
def wU (ops:Array Oper):Option Oper:=match ops.back? with
 |some p=>bif (ops.toList.zipIdx.all fun(o,i)=>zC ops.pop.size i o) && ((List.range ops.pop.size).all fun i=>((nL ops.toList []).getD ops.pop.size 0).testBit i) then some p else none
 |none=>none
def agm (k:aD→M I (bX × aD)) (r:bX × aD):M I (bX × aD):=match r with
 |(.normal,a1)=>k a1
 |r=>pure r
def LH (P:Program) (X:Hk) (lo:eK) (ρ:Option Nat) (self:Self I) (ops:Array Oper) (a:aD):M I (bX × aD):=match wU ops with
 |some p=>FA P X lo self ops.pop a>>=agm (mz P X lo ρ self ops [p])
 |none=>FA P X lo self ops a
end
end Go.Am
/- A part of the proof. Conditions: none. -/
set_option maxRecDepth 100000
set_option maxHeartbeats 8000000
namespace Go.Am
open Go Go.RowKit
noncomputable section
variable {μ:Type} {I:ir μ} {P:Program} {lo:eK} {w0:Bs} {E:Env}
def af3 (k:aD→M I (bX × aD)) (r:bX × aD):M I (bX × aD):=match r with
 |(.normal,a1)=>k a1
 |r=>pure r
def LC (id:Nat) (r:bX × aD):M I (bX × aD):=match r with
 |(.exit j,a1)=>bif Nat.beq j id then pure (.normal,a1) else pure (.exit j,a1)
 |r=>pure r
def LD (lo:eK) (self:Self I) (ρ:Option Nat) (c:Operand) (x y:Code) (a:aD):M I (bX × aD):=match yG lo a c with
 |some (.bool b)=>bif b then self.code ρ x a else self.code ρ y a
 |_=>fail
def tmpsOf (a:aD):Array Value:=((List.range a.n).map a.val).toArray
def Fq (a:aD) (ps:Array Tmp) (assign body:Code) (d:Nat):Obj:=.loop {state:=.ready,pending:=none,fn:=0,tmps:=tmpsOf a,params:=ps,assign,body,defers:=d}
def oJ (ρ:Option Nat) (a:aD) (ps:Array Tmp) (assign body:Code):M I (Nat × List Deferred):=match ρ with
 |none=>new (.deferred (some []))>>=fun r=>new (Fq a ps assign body r)>>=fun l=>pure (l,[{target:=.collected r,args:=#[]}])
 |some k=>rd k>>=fun o=>match o with
  | .loop r0=>new (Fq a ps assign body r0.defers)>>=fun l=>pure (l,[])
  |_=>fail
def marked (a:aD) (m:List Deferred):aD:=⟨a.n,a.t,m++a.defers⟩
def X0 (a:aD) (j:Option Code):M I (bX × aD):=match j with
 |none=>pure (.normal,a)
 |some .ret=>pure (.ret,a)
 |some (.exit id)=>pure (.exit id,a)
 |_=>fail
def Be (lo:eK) (l:Nat):M I (Option Code):=rd l>>=fun o=>match o with
 | .loop r=>match r.state with
  | .busy=>fail
  |_=>wr lo l (some (.loop {r with state:=.exhausted}))>>=fun _=>pure r.pending
 |_=>fail
def uJ (lo:eK) (l:Nat) (a:aD) (e:fS):M I (bX × aD):=match e with
 | .panic v=>pure (.panic v,a)
 | .ret _=>Be lo l>>=X0 a
def LF (X:Hk) (lo:eK) (self:Self I) (g:Operand) (a:aD) (lm:Nat × List Deferred):M I (bX × aD):=match yG lo a g with
 |some (.func (.func f) first cap)=>bif X.X f then self.call f (first++#[.func (.yield lm.1) #[] #[]]++cap)>>=uJ lo lm.1 (marked a lm.2) else fail
 |_=>fail
def zi (X:Hk) (lo:eK) (self:Self I) (ρ:Option Nat) (g:Operand) (ps:Array Tmp) (assign body:Code) (a:aD):M I (bX × aD):=
 oJ ρ a ps assign body>>=LF X lo self g a
def AR (P:Program) (X:Hk) (lo:eK) (self:Self I) (ρ:Option Nat):Code→aD→M I (bX × aD)
 | .skip,a=>pure (.normal,a)
 | .label _,a=>pure (.normal,a)
 | .seq x y,a=>self.code ρ x a>>=af3 (self.code ρ y)
 | .cond c x y,a=>LD lo self ρ c x y a
 | .block id b,a=>self.code ρ b a>>=LC id
 | .loop b,a=>LG self ρ b 1000000 a
 | .scope b,a=>self.code ρ b a
 | .exit id,a=>pure (.exit id,a)
 | .ret,a=>pure (.ret,a)
 | .region _ ops false,a=>mz P X lo ρ self ops ops.toList a
 | .region _ ops true,a=>LH P X lo ρ self ops a
 | .rangeFunc g ps assign body,a=>zi X lo self ρ g ps assign body a
 |_,_=>fail
def RI (P:Program) (a:aD):List ResultVar→M I (List Value)
 |[]=>pure []
 | .tmp t::l=>RI P a l>>=fun vs=>pure (a.val t::vs)
 | .cell x t::l=>AJ P t (a.val x)>>=fun v=>RI P a l>>=fun vs=>pure (v::vs)
def aaA (P:Program) (fn:Func) (a:aD):M I Value:=RI P a fn.results.toList>>=fun vs=>match vs with
 |[v]=>pure v
 |vs=>pure (.tuple vs.toArray)
abbrev Gp (I:ir μ):=Option (FuncId→Array Value→Option (M I fS))
def st0 (n:Nat):St (Trie Obj):=⟨n,.leaf,0,0⟩
end
end Go.Am
/- A part of the proof. Conditions: none. -/
set_option maxRecDepth 100000
set_option maxHeartbeats 8000000
namespace Go.Am
open Go Go.RowKit
variable {μ:Type} {I:ir μ} {P:Program} {lo:eK} {w0:Bs}
inductive dK (ops:List Oper):Nat→Nat→Prop
 |MG {j:Nat} {o:Oper} {e:Edge}:ops[j]?=some o→e∈o.after→Region.binds .any e=true→dK ops j e.on
 |step {j i:Nat} {o:Oper} {e:Edge}:ops[j]?=some o→e∈o.after→Region.binds .any e=true→dK ops e.on i→dK ops j i
theorem mJ (ops:List Oper) {acc:List Nat} {j:Nat} {o:Oper} (ho:ops[j]?=some o) (abp:∀j i,(acc.getD j 0).testBit i=true→dK ops j i):∀(l:List Edge),(∀e∈l,e∈o.after)→∀i,(qW acc l).testBit i=true→dK ops j i
 |[],_,i,h=>by simp [qW] at h
 |e::l,hl,i,h=>by
  unfold qW at h;cases hb:Region.binds .any e with
  |false=>rw [hb] at h;exact mJ ops ho abp l (fun x hx=>hl x (by simp [hx])) i h
  |true=>
   rw [hb,cond_true,Nat.testBit_or,dw] at h;simp only [Bool.or_eq_true,decide_eq_true_eq] at h;rcases h with(h|h)|h
   ·exact mJ ops ho abp l (fun x hx=>hl x (by simp [hx])) i h
   ·subst h;exact .MG ho (hl e ak) hb
   ·exact .step ho (hl e ak) hb (abp _ _ h)
theorem kJ (ops:List Oper):∀(l:List Oper) (acc:List Nat),(∀k o,l[k]?=some o→ops[acc.length+k]?=some o)→(∀j i,(acc.getD j 0).testBit i=true→dK ops j i)→
  ∀j i,((nL l acc).getD j 0).testBit i=true→dK ops j i
 |[],acc,_,h=>h
 |o::l,acc,hl,h=>by
  refine kJ ops l _ (fun k p hk=>?_) fun j i MH=>?_
  ·have:=hl (k+1) p (by simpa using hk);rw [List.length_append];rw [←this];congr 1;simp;omega
  ·rcases Nat.lt_trichotomy j acc.length with hj|hj|hj
   ·refine h j i ?_;simpa [List.getD,List.getElem?_append_left hj] using MH
   ·subst hj;have ho:=hl 0 o rfl;simp at ho;refine mJ ops ho h o.after.toList (fun e he=>by simpa using he) i ?_;simpa [List.getD] using MH
   ·simp [List.getD,List.getElem?_append_right (Nat.le_of_lt hj)] at MH;rw [List.getElem?_eq_none cr] at MH;simp at MH
def fY (ops:List Oper) (S:Nat→Bool):Prop:=∀j o e,S j=true→ops[j]?=some o→e∈o.after→Region.binds .any e=true→S e.on=true
theorem dK.mem {ops:List Oper} {S:Nat→Bool} (hS:fY ops S) {j i:Nat} (h:dK ops j i) (hj:S j=true):S i=true:=by
 induction h with
 |MG ho he hb=>exact hS _ _ _ hj ho he hb
 |step ho he hb _ ih=>exact ih (hS _ _ _ hj ho he hb)
def dZ {α β:Type} (p:α→Bool) (f:α→β):β→List α→β
 |b,[]=>b
 |b,r::l=>dZ p f (if p r then f r else b) l
theorem eU {α β:Type} {p q:α→Bool} {f:α→β}:∀(l:List α) (b:β),(∀r∈l,p r=q r)→dZ p f b l=dZ q f b l
 |[],_,_=>rfl
 |r::l,b,h=>by
  simp only [dZ,h r ak];exact eU l _ fun x hx=>h x (by simp [hx])
theorem fL {α β:Type} {p:α→Bool} {f:α→β}:∀(l:List α) (b:β),(∀r∈l,p r=false)→dZ p f b l=b
 |[],_,_=>rfl
 |r::l,b,h=>by
  simp only [dZ,h r ak,Bool.false_eq_true,if_false];exact fL l _ fun x hx=>h x (by simp [hx])
theorem pY {α β:Type} {p:α→Bool} {f:α→β}:∀(l m:List α) (b:β),dZ p f b (l++m)=dZ p f (dZ p f b l) m
 |[],_,_=>rfl
 |r::l,m,b=>by simp only [List.cons_append,dZ];exact pY l m _
theorem BA {α β:Type} {p:α→Bool} {f:α→β} {l m:List α} {r:α} (b:β) (hr:p r=true) (hm:∀x∈m,p x=false):dZ p f b (l++r::m)=f r:=by
 rw [pY];simp only [dZ,hr,if_true];exact fL m _ hm
structure xJ (μ:Type) where
 i:Nat
 o:Oper
 a:aD
 v:Value
 n0:Nat
 m0:μ
 n1:Nat
 m1:μ
 T:Nat
 W:Nat
def ags (a:aD) (dst:Option Tmp) (v:Value) (a1:aD):Prop:=(∀t,a1.val t=if dst=some t then v else a.val t)∧a1.n=a.n∧a1.defers=a.defers∧∀d,dst=some d→d<a.n
theorem S8 {a a':aD} {dst:Option Tmp} {v:Value} {s s':St μ} (hr:(iP a dst v:M I aD).run s=some (a',s')):s'=s∧ags a dst v a':=by
 unfold iP at hr;cases dst with
 |none=>obtain⟨rfl,rfl⟩:=pure_run hr;exact⟨rfl,fun t=>by simp,rfl,rfl,fun d h=>by cases h⟩
 |some d=>
  cases hb:(Nat.blt d a.n && Nat.blt d 4095) with
  |false=>simp only [hb] at hr;exact(au hr).elim
  |true=>
   simp only [hb] at hr;obtain⟨rfl,rfl⟩:=pure_run hr;rw [blt_eq,blt_eq] at hb;simp only [Bool.and_eq_true,decide_eq_true_eq] at hb;refine⟨rfl,fun t=>?_,rfl,rfl,fun d' h=>by cases h;exact hb.1⟩;unfold aD.val;rw [Trie.tj 12 a.t d t (some v) aa];by_cases e:t=d
   ·subst e;simp
   ·have:¬(d=t):=fun h=>e h.symm
    simp [e,this]
inductive Tr (P:Program) (X:Hk) (lo:eK) (self:Self I) (ops:Array Oper):Nat→List Oper→aD→Nat→μ→List (xJ μ)→aD→Nat→μ→Prop
 |nil {i:Nat} {a:aD} {n:Nat} {m:μ}:Tr P X lo self ops i [] a n m [] a n m
 |cons {i:Nat} {o:Oper} {rest:List Oper} {a a1 aN:aD} {n n1 nN:Nat} {m m1 mN:μ} {v:Value} {T W:Nat} {L:List (xJ μ)}:(DO P X lo self ops o a).run ⟨n,m,0,0⟩=some (v,⟨n1,m1,T,W⟩)→ags a o.dst v a1→
   Tr P X lo self ops (i+1) rest a1 n1 m1 L aN nN mN→Tr P X lo self ops i (o::rest) a n m (⟨i,o,a,v,n,m,n1,m1,T,W⟩::L) aN nN mN
variable {X:Hk} {self:Self I} {ops:Array Oper}
theorem FC:∀(l:List Oper) (i:Nat) (a:aD) (s s':St μ) (q:aD × List Mk),(abm P X lo self ops l a).run s=some (q,s')→
  ∃L,Tr P X lo self ops i l a s.next s.mem L q.1 s'.next s'.mem∧q.2=L.map (fun r=>⟨r.T,r.W⟩)∧(∀k,s'.T.testBit k=(s.T.testBit k||L.any (fun r=>r.T.testBit k)))∧∀k,s'.W.testBit k=(s.W.testBit k||L.any (fun r=>r.W.testBit k))
 |[],i,a,s,s',q,h=>by
  obtain⟨rfl,rfl⟩:=pure_run h;exact⟨[],.nil,rfl,by simp,by simp⟩
 |o::rest,i,a,s,s',q,h=>by
  obtain⟨⟨v,T,W⟩,s1,h1,h2⟩:=ax h;obtain⟨a1,s2,h3,h4⟩:=ax h2;obtain⟨q2,s3,h5,h6⟩:=ax h4;obtain⟨rfl,rfl⟩:=pure_run h6;obtain⟨g1,g2,g3⟩:=G9 h1;obtain⟨rfl,hp⟩:=S8 h3;obtain⟨L,hL,hm,hT,hW⟩:=FC rest (i+1) a1 _ _ q2 h5;refine⟨_,.cons g1 hp hL,by simp [hm],fun k=>?_,fun k=>?_⟩
  ·rw [hT,g2,Nat.testBit_or];simp [Bool.or_assoc]
  ·rw [hW,g3,Nat.testBit_or];simp [Bool.or_assoc]
theorem Tr.idx {i:Nat} {l:List Oper} {a aN:aD} {n nN:Nat} {m mN:μ} {L:List (xJ μ)} (h:Tr P X lo self ops i l a n m L aN nN mN):L.length=l.length∧∀(k:Nat) (r:xJ μ),L[k]?=some r→r.i=i+k∧l[k]?=some r.o:=by
 induction h with
 |nil=>exact⟨rfl,fun k r h=>by simp at h⟩
 |cons h1 h2 h3 ih=>
  refine⟨by simp [ih.1],fun k r hk=>?_⟩;rcases k with _|k
  ·simp at hk;subst hk;exact⟨rfl,rfl⟩
  ·simp at hk;obtain⟨h4,h5⟩:=ih.2 k r hk;exact⟨by omega,by simpa using h5⟩
theorem Tr.ge {i:Nat} {l:List Oper} {a aN:aD} {n nN:Nat} {m mN:μ} {L:List (xJ μ)} (h:Tr P X lo self ops i l a n m L aN nN mN):∀r∈L,i≤r.i:=fun r hr=>by
 obtain⟨k,hk⟩:=List.mem_iff_getElem?.1 hr;have:=(h.idx.2 k r hk).1;omega
theorem Tr.one {i:Nat} {l:List Oper} {a aN:aD} {n nN:Nat} {m mN:μ} {L:List (xJ μ)} (h:Tr P X lo self ops i l a n m L aN nN mN):∀r∈L,(DO P X lo self ops r.o r.a).run ⟨r.n0,r.m0,0,0⟩=some (r.v,⟨r.n1,r.m1,r.T,r.W⟩):=by
 induction h with
 |nil=>intro r hr;cases hr
 |cons h1 h2 h3 ih=>
  intro r hr;rcases List.mem_cons.1 hr with rfl|hr
  ·exact h1
  ·exact ih r hr
theorem Tr.frame {i:Nat} {l:List Oper} {a aN:aD} {n nN:Nat} {m mN:μ} {L:List (xJ μ)} (h:Tr P X lo self ops i l a n m L aN nN mN):aN.n=a.n∧aN.defers=a.defers∧n≤nN∧∀r∈L,r.a.n=a.n∧n≤r.n0∧r.n0≤r.n1∧r.n1≤nN∧∀d,r.o.dst=some d→d<a.n:=by
 induction h with
 |nil=>exact⟨rfl,rfl,Nat.le_refl _,fun r hr=>by cases hr⟩
 |cons h1 h2 h3 ih=>
  have hl:=(DO P X lo self ops _ _).le _ _ _ h1;obtain⟨i1,i2,i3,i4⟩:=ih;have hn:=hl.next;simp only at hn;refine⟨by rw [i1,h2.2.1],by rw [i2,h2.2.2.1],by omega,fun r hr=>?_⟩;rcases List.mem_cons.1 hr with rfl|hr
  ·exact⟨rfl,Nat.le_refl _,hn,i3,h2.2.2.2⟩
  ·obtain⟨j1,j2,j3,j4,j5⟩:=i4 r hr;exact⟨by rw [j1,h2.2.1],by omega,j3,j4,fun d hd=>by have:=j5 d hd;rw [h2.2.1] at this;exact this⟩
theorem Tr.apart {i:Nat} {l:List Oper} {a aN:aD} {n nN:Nat} {m mN:μ} {L:List (xJ μ)} (h:Tr P X lo self ops i l a n m L aN nN mN):∀r∈L,∀r'∈L,r.i<r'.i→r.n1≤r'.n0:=by
 induction h with
 |nil=>intro r hr;cases hr
 |cons h1 h2 h3 ih=>
  intro r hr r' CD hlt;have sj:=h3.ge;rcases List.mem_cons.1 hr with rfl|hr
  ·rcases List.mem_cons.1 CD with rfl|CD
   ·exact absurd hlt (Nat.lt_irrefl _)
   ·exact(h3.frame.2.2.2 r' CD).2.1
  ·rcases List.mem_cons.1 CD with rfl|CD
   ·have:=sj r hr;simp only at hlt;omega
   ·exact ih r hr r' CD hlt
theorem Tr.mem {i:Nat} {l:List Oper} {a aN:aD} {n nN:Nat} {m mN:μ} {L:List (xJ μ)} (h:Tr P X lo self ops i l a n m L aN nN mN) (k:Nat):
  (∀r∈L,I.get r.m0 k=dZ (fun x=>decide (x.i<r.i) && x.W.testBit k) (fun x=>I.get x.m1 k) (I.get m k) L)∧I.get mN k=dZ (fun x=>x.W.testBit k) (fun x=>I.get x.m1 k) (I.get m k) L:=by
 induction h with
 |nil=>exact⟨fun r hr=>(List.not_mem_nil hr).elim,rfl⟩
 | @cons i o rest a a1 aN n n1 nN m m1 mN v T W L h1 h2 h3 ih=>
  have hl:=(DO P X lo self ops _ _).le _ _ _ h1;have sj:=h3.ge;have hbase:(if W.testBit k=true then I.get m1 k else I.get m k)=I.get m1 k:=by
   split
   ·rfl
   ·rename_i hw;exact(hl.mem k (by simpa using hw)).symm
  exact Yk
theorem Tr.vals {i:Nat} {l:List Oper} {a aN:aD} {n nN:Nat} {m mN:μ} {L:List (xJ μ)} (h:Tr P X lo self ops i l a n m L aN nN mN) (t:Nat):
  (∀r∈L,r.a.val t=dZ (fun x=>decide (x.i<r.i) && decide (x.o.dst=some t)) (fun x=>x.v) (a.val t) L)∧aN.val t=dZ (fun x=>decide (x.o.dst=some t)) (fun x=>x.v) (a.val t) L:=by
 induction h with
 |nil=>exact⟨fun r hr=>(List.not_mem_nil hr).elim,rfl⟩
 | @cons i o rest a a1 aN n n1 nN m m1 mN v T W L h1 h2 h3 ih=>
  have sj:=h3.ge;have hbase:(if decide (o.dst=some t)=true then v else a.val t)=a1.val t:=by
   rw [h2.1];simp
  exact Yk
structure DX (ops:Array Oper) (r r':xJ μ):Prop where
 op:r.o.apart ops r'.o=true
 w:∀k,r.W.testBit k=true→r'.T.testBit k=false∧r'.W.testBit k=false
 t:∀k,r.T.testBit k=true→r'.W.testBit k=false
theorem xK {x y:Nat} (h:Nat.beq (x &&& y) 0=true) (k:Nat) (hx:x.testBit k=true):y.testBit k=false:=by
 have h0:=Nat.eq_of_beq_eq_true h;have:=congrArg (fun n=>n.testBit k) h0;simpa [Nat.testBit_and,hx] using this
theorem BB {r r':xJ μ} (h:DT ops r.o r'.o ⟨r.T,r.W⟩ ⟨r'.T,r'.W⟩=true):DX ops r r':=by
 unfold DT at h;simp only [Bool.and_eq_true] at h;obtain⟨⟨h1,h2⟩,h3⟩:=h;refine⟨h1,fun k hk=>?_,fun k hk=>xK h3 k hk⟩;have:=xK h2 k hk;rw [Nat.testBit_or,Bool.or_eq_false_iff] at this;exact this
theorem BC {L:List (xJ μ)} (hL:∀(k:Nat) (r:xJ μ),L[k]?=some r→r.i=k∧ops.toList[k]?=some r.o) (h:zB ops (nL ops.toList []) (L.map fun r=>(⟨r.T,r.W⟩:Mk))=true):
  (∀r∈L,∀r'∈L,r.i<r'.i→dK ops.toList r'.i r.i∨DX ops r r')∧∀i o e,ops.toList[i]?=some o→e∈o.after→Region.binds .any e=true→e.on<i:=by
 unfold zB at h;simp only [Bool.and_eq_true] at h;obtain⟨h1,h2⟩:=h;constructor
 ·intro r hr r' CD hlt;obtain⟨i,hi⟩:=List.mem_iff_getElem?.1 hr;obtain⟨j,hj⟩:=List.mem_iff_getElem?.1 CD;obtain⟨e1,o1⟩:=hL i r hi;obtain⟨e2,o2⟩:=hL j r' hj;have hm':((⟨r'.T,r'.W⟩:Mk),j)∈(L.map fun r=>(⟨r.T,r.W⟩:Mk)).zipIdx:=by
   rw [List.mem_zipIdx_iff_getElem?];simp [hj]
  have hm:((⟨r.T,r.W⟩:Mk),i)∈(L.map fun r=>(⟨r.T,r.W⟩:Mk)).zipIdx:=by
   rw [List.mem_zipIdx_iff_getElem?];simp [hi]
  have h3:=List.all_eq_true.1 h1 _ hm';have h4:=List.all_eq_true.1 h3 _ hm;simp only [Bool.or_eq_true] at h4;rcases h4 with(h4|h4)|h4
  ·rw [blt_eq] at h4;simp at h4;omega
  ·rw [e1,e2];exact .inl (kJ ops.toList ops.toList [] (fun k o hk=>by simpa using hk) (fun j i h=>by simp at h) j i h4)
  ·refine .inr (BB ?_);have q1:ops[i]?=some r.o:=by rw [←o1];simp
   have q2:ops[j]?=some r'.o:=by rw [←o2];simp
   simpa [q1,q2] using h4
 ·intro i o e ho he hb;have hm:(o,i)∈ops.toList.zipIdx:=FD;exact MI
structure S9 (P:Program) (lo:eK) (w0:Bs) (ops:Array Oper) (I:ir μ) (E0:Env) (g:Nat→Option Obj) (a:aD) (ca0:Act) (b0 b1:Nat) (L:List (xJ μ)) (S:Nat→Bool) (E:Env) (ca:Act) (w:World):Prop where
 rel:Rel P lo w0 E (fun k=>dZ (fun x=>S x.i && x.W.testBit k) (fun x=>I.get x.m1 k) (g k) L) w
 size:ca.tmps.size=a.n
 val:∀t,VR E (dZ (fun x=>S x.i && decide (x.o.dst=some t)) (fun x=>x.v) (a.val t) L) (ca.tmps.getD t undef)
 defers:ca.defers=ca0.defers
 fresh:∀r∈L,S r.i=false→∀k,r.n0≤k→k<r.n1→E k=none
 ext:Env.Ext E0 E b0 b1
 closed:fY ops.toList S
theorem zI {a:aD} {ca:Act} {o:Oper} {E:Env} (hs:ca.tmps.size=a.n) (h:∀t∈o.looksAt ops,VR E (a.val t) (ca.tmps.getD t undef)):Region.wanted o (yielded ops ca.tmps)=gT ops a o:=by
 unfold Region.wanted gT;cases hg:o.guard with
 |none=>rfl
 |some jw=>
  obtain⟨j,want⟩:=jw;simp only;have hy:yielded ops ca.tmps j=jT ops a j:=by
   unfold yielded jT;cases hd:(ops[j]?).bind (·.dst) with
   |none=>rfl
   |some d=>
    simp only [Option.bind_some,blt_eq,←hs];have hv:=h d (by unfold Oper.looksAt;rw [hg];simp [hd]);exact X8
  exact L9
theorem Ta {a:aD} {ca:Act} {o:Oper} {E:Env} (hold:∀k,k<lo.G→E k=some (k,0)) (h:∀t∈o.looksAt ops,VR E (a.val t) (ca.tmps.getD t undef)):∀x v,evO lo ops o a x=some v→VR E v (ca.eval x):=by
 intro x v hv;cases x with
 |tmp t=>
  unfold evO at hv;cases hc:(o.looksAt ops).contains t with
  |true=>
   simp only [hc,cond_true,Option.some.injEq] at hv;subst hv;exact h t (by simpa using hc)
  |false=>simp only [hc,cond_false] at hv;cases hv
 |const u=>
  change yG lo a (.const u)=some v at hv;exact L6
 |global g=>
  change yG lo a (.global g)=some v at hv;exact L8
 |func f=>
  change yG lo a (.func f)=some v at hv;simp [yG] at hv;subst hv;exact .func rfl (fun _ _ j h=>by simp at h) rfl (fun _ _ j h=>by simp at h)
theorem abq {H:Plain P X w0.w} (ki:gm P lo w0 self.code) (hc:gj P lo w0 self.call) {ρ':Option Nat} {o:Oper} {a:aD} {s s':St μ} {v:Value} (hr:(DO P X lo self ops o a).run s=some (v,s')) {E:Env} {g:Nat→Option Obj} {w:World} {ca:Act} {Q:Exit→Act→World→Prop} {K:Act→World→Prop} {i:Nat}
  (ho:ops[i]?=some o) (hR:Rel P lo w0 E g w) (hA:dx I s s' g) (hF:fN s s' E) (hs:ca.tmps.size=a.n) (ag:∀t∈o.looksAt ops,VR E (a.val t) (ca.tmps.getD t undef))
  (hK:∀E' v' w',Env.Ext E E' s.next s'.next→VR E' v v'→Rel P lo w0 E' (merge I s' g) w'→K (ca.put o.dst v') w'):wpOpIn (qJ ρ') 0 P ops Q i K ca w:=by
 have hw:=zI (ops:=ops) hs ag;unfold wpOpIn;simp only [ho];rw [hw];unfold DO at hr;cases QD:gT ops a o with
 |false=>
  simp only [QD,cond_false] at hr;obtain⟨rfl,rfl⟩:=pure_run hr;rw [if_neg ak];exact⟨fun _ _=>trivial,hK E undef w (.refl _ _) (VR.undef E) xg⟩
 |true=>
  simp only [QD,cond_true] at hr;rw [if_pos rfl];refine⟨fun _ _=>trivial, ?_⟩;obtain⟨r,s1,h1,h2⟩:=ax hr;have iQ:St.Le I s1 s':=M.le _ _ _ _ h2;have hev:=Ta (lo:=lo) (ops:=ops) hR.old ag;obtain⟨E1,nx,w1,hrun,hx1,qB,pq⟩:=oy (lo:=lo) (w0:=w0) (E:=E) H hev o s r s1 h1 E g w (fun _ _ h=>h) hR (hA.first iQ) (hF.first iQ.next) trivial;obtain⟨gY,lU,lD,nh⟩:=chain h1 iQ hA hF hx1;cases r with
  |val u=>
   rw [DI h1 (fun d h=>by cases h),hrun];obtain⟨rfl,rfl⟩:=pure_run h2;cases nx<;>simp only [NR] at qB<;>first|exact qB.elim|skip
   ·exact hK E1 _ w1 hx1 qB pq
   ·subst qB;exact hK E1 undef w1 hx1 (VR.undef E1) pq
  |call f args=>
   rw [DI h1 (fun d h=>by cases h),hrun];cases nx<;>simp only [NR] at qB<;>first|exact qB.elim|skip
   rename_i f' cs;obtain⟨rfl,cG⟩:=qB;obtain⟨en,s2,h3,h4⟩:=ax h2;have jK:St.Le I s2 s':=M.le _ _ _ _ h4;have uP:=hc f args s1 en s2 h3 E1 _ w1 cs pq (gY.first jK) (lU.first jK.next) cG;rw [Oper.uponIn_enter];refine⟨iF,mD (uP.mono fun e2 w2 ⟨E2,hx2,hen,qI⟩=>?_)⟩;exact Yl
  |round l ts b c=>
   rw [DI h1 (fun d h=>by cases h),hrun];cases nx<;>simp only [NR] at qB<;>first|exact qB.elim|skip
   rename_i l' f' cs b' c';obtain⟨rfl,rfl,⟨q,hq⟩,cG⟩:=qB;obtain⟨en,s2,h3,h4⟩:=ax h2;have jK:St.Le I s2 s':=M.le _ _ _ _ h4;have uP:=Bk (ρ':=ρ') (f:=f') ki h3 pq (gY.first jK) (lU.first jK.next) hq cG;rw [Oper.uponIn_round];refine⟨iF,(uP.mono fun e2 w2 ⟨E2,hx2,hen,qI⟩=>?_)⟩;exact Yl
  |defer d=>exact(au h2).elim
  |panic u=>exact(au h2).elim
  |recover=>exact(au h2).elim
section
variable {E0:Env} {g:Nat→Option Obj} {a aN:aD} {ca0:Act} {n nN:Nat} {m mN:μ} {L:List (xJ μ)}
theorem Hu {H:Plain P X w0.w} (ki:gm P lo w0 self.code) (hc:gj P lo w0 self.call) {ρ':Option Nat} (hT:Tr P X lo self ops 0 ops.toList a n m L aN nN mN) (hg:∀r∈L,∀k,(r.T.testBit k||r.W.testBit k)=true→g k=I.get m k)
  (sO:∀r∈L,∀r'∈L,r.i<r'.i→dK ops.toList r'.i r.i∨DX ops r r') {S S':Nat→Bool} {E:Env} {ca:Act} {w:World} (hI:S9 P lo w0 ops I E0 g a ca0 n nN L S E ca w)
  {r:xJ μ} (hr:r∈L) (hSr:S r.i=false) (DY:∀e∈r.o.after,Region.binds .any e=true→S e.on=true) (Ym:∀j,S' j=(S j||decide (j=r.i)))
  {Q:Exit→Act→World→Prop} {K:Act→World→Prop} (hK:∀E' lT w',S9 P lo w0 ops I E0 g a ca0 n nN L S' E' lT w'→K lT w'):wpOpIn (qJ ρ') 0 P ops Q r.i K ca w:=by
 obtain⟨hlen,abr⟩:=hT.idx;have uW:∀(k:Nat) (x:xJ μ),L[k]?=some x→x.i=k∧ops.toList[k]?=some x.o:=fun k x hx=>by
  have:=abr k x hx;exact⟨by omega,this.2⟩
 have hat:∀x∈L,L[x.i]?=some x∧ops.toList[x.i]?=some x.o:=fun x hx=>by
  obtain⟨k,hk⟩:=List.mem_iff_getElem?.1 hx;obtain⟨h1,h2⟩:=uW k x hk;rw [h1];exact⟨hk,h2⟩
 have FE:∀x∈L,∀y∈L,x.i=y.i→x=y:=fun x hx y hy e=>by
  have h1:=(hat x hx).1;have h2:=(hat y hy).1;rw [e,h2] at h1;cases h1;rfl
 have hro:=(hat r hr).2;have zJ:∀i,dK ops.toList r.i i→S i=true:=fun i h=>by
  cases h with
  |MG ho he hb=>rw [hro] at ho;cases ho;exact DY _ he hb
  |step ho he hb h2=>rw [hro] at ho;cases ho;exact h2.mem hI.closed (DY _ he hb)
 have tE:∀i,dK ops.toList i r.i→S i=false:=fun i h=>by
  cases hs:S i with
  |false=>rfl
  |true=>have:=h.mem hI.closed hs;rw [hSr] at this;cases this
 have ajI:∀k,(r.T.testBit k||r.W.testBit k)=true→∀x∈L,(S x.i && x.W.testBit k)=(decide (x.i<r.i) && x.W.testBit k):=fun k hk x hx=>by
  cases Yn:x.W.testBit k with
  |false=>simp
  |true=>
   simp only [Bool.and_true];rcases Nat.lt_trichotomy x.i r.i with hlt|heq|hgt
   ·rcases sO x hx r hr hlt with h|h
    ·rw [zJ _ h];simp [hlt]
    ·obtain⟨h1,h2⟩:=h.w k Yn;rw [h1,h2] at hk;cases hk
   ·have:=FE x hx r hr heq;subst this;rw [hSr];simp
   ·rcases sO r hr x hx hgt with h|h
    ·rw [tE _ h];have:¬x.i<r.i:=aa;simp [this]
    ·exfalso;rw [Bool.or_eq_true] at hk;rcases hk with hk|hk
     ·rw [h.t k hk] at Yn;cases Yn
     ·rw [(h.w k hk).2] at Yn;cases Yn
 have agv:∀t,(t∈r.o.looksAt ops∨r.o.dst=some t)→∀x∈L,(S x.i && decide (x.o.dst=some t))=(decide (x.i<r.i) && decide (x.o.dst=some t)):=fun t ht x hx=>by
  by_cases Tc:x.o.dst=some t
  ·simp only [Tc,decide_true,Bool.and_true];rcases Nat.lt_trichotomy x.i r.i with hlt|heq|hgt
   ·rcases sO x hx r hr hlt with h|h
    ·rw [zJ _ h];simp [hlt]
    ·obtain⟨h1,h2,h3⟩:=Oper.apart_spec h.op;rcases ht with ht|ht
     ·exact absurd ht (h1 t Tc)
     ·exact absurd ht (h2 t Tc)
   ·have:=FE x hx r hr heq;subst this;rw [hSr];simp
   ·rcases sO r hr x hx hgt with h|h
    ·rw [tE _ h];have:¬x.i<r.i:=aa;simp [this]
    ·obtain⟨h1,h2,h3⟩:=Oper.apart_spec h.op;rcases ht with ht|ht
     ·exact absurd ht (h3 t Tc)
     ·exact absurd Tc (h2 t ht)
  ·simp [Tc]
 have yD:=hT.one r hr;obtain⟨f1,f2,f3,f4⟩:=hT.frame;obtain⟨j1,j2,j3,j4,j5⟩:=f4 r hr;have ajJ:ops[r.i]?=some r.o:=by rw [←hro];simp
 refine abq (H:=H) ki hc yD ajJ hI.rel (fun k hk=>?_) (fun k h1 h2=>hI.fresh r hr hSr k h1 h2) (by rw [j1];exact hI.size) (fun t ht=>?_) fun E' v' w' hx hv tu=>hK E' _ w' ?_
 ·
  show dZ _ _ _ _=_;rw [eU L (g k) (ajI k hk),(hT.mem k).1 r hr,hg r hr k hk]
 ·rw [(hT.vals t).1 r hr,←eU L (a.val t) (agv t (.inl ht))];exact hI.val t
 ·have pZ:=hx.keep;obtain⟨L1,L2,hLs⟩:=List.append_of_mem hr;have hL2:∀x∈L2,r.i<x.i:=fun x hx=>by
   obtain⟨k,hk⟩:=List.mem_iff_getElem?.1 hx;have h1:L[L1.length]?=some r:=by rw [hLs];simp
   have h2:L[L1.length+1+k]?=some x:=by
    rw [hLs,List.getElem?_append_right aa,show L1.length+1+k - L1.length=k+1 by omega];simpa using hk
   have e1:=(uW _ _ h1).1;have e2:=(uW _ _ h2).1;omega
  have MJ:∀x∈L2,x∈L:=fun x hx=>by rw [hLs];simp [hx]
  refine⟨?_, ?_,fun t=>?_, ?_,fun x Yo hxS k h1 h2=>?_, ?_,fun j o e hj ho he hb=>?_⟩
  ·have hm:merge I ⟨r.n1,r.m1,r.T,r.W⟩ (fun k=>dZ (fun x=>S x.i && x.W.testBit k) (fun x=>I.get x.m1 k) (g k) L)=fun k=>dZ (fun x=>S' x.i && x.W.testBit k) (fun x=>I.get x.m1 k) (g k) L:=by
    funext k;unfold merge;simp only;cases hw:r.W.testBit k with
    |false=>
     rw [if_neg ak];refine eU L _ fun x hx=>?_
     rw [Ym];by_cases e:x.i=r.i
     ·have:=FE x hx r hr e;subst this;simp [hw]
     ·simp [e]
    |true=>
     rw [if_pos rfl,hLs];refine(BA (p:=fun x=>S' x.i && x.W.testBit k) (f:=fun x=>I.get x.m1 k) (l:=L1) (m:=L2) (r:=r) (g k) (by simp only [Ym,hw];simp) fun x hx=>?_).symm;show(S' x.i && x.W.testBit k)=false;cases Yn:x.W.testBit k with
     |false=>simp
     |true=>
      rw [Bool.and_true,Ym];have hlt:=hL2 x hx;rcases sO r hr x (MJ x hx) hlt with h|h
      ·rw [tE _ h];have:¬x.i=r.i:=aa;simp [this]
      ·rw [(h.w k hw).2] at Yn;cases Yn
   rw [hm] at tu;exact tu
  ·simp [Act.put];cases r.o.dst<;>simp [hI.size]
  ·by_cases hd:r.o.dst=some t
   ·have hval:dZ (fun x=>S' x.i && decide (x.o.dst=some t)) (fun x=>x.v) (a.val t) L=r.v:=by
     rw [hLs];refine BA _ (by rw [Ym];simp [hd]) fun x hx=>?_
     by_cases Tc:x.o.dst=some t
     ·have hlt:=hL2 x hx;have:=agv t (.inr hd) x (MJ x hx);rw [Tc] at this;have hn:¬x.i<r.i:=aa;have yZ:¬x.i=r.i:=aa;simp [hn] at this;rw [Ym,this];simp [yZ]
     ·simp [Tc]
    rw [hval,hd];have hlt:t<ca.tmps.size:=by rw [hI.size];exact j5 t hd
    simp [Act.put,hlt];exact hv
   ·have hval:dZ (fun x=>S' x.i && decide (x.o.dst=some t)) (fun x=>x.v) (a.val t) L=dZ (fun x=>S x.i && decide (x.o.dst=some t)) (fun x=>x.v) (a.val t) L:=by
     refine eU L _ fun x hx=>?_
     rw [Ym];by_cases e:x.i=r.i
     ·have:=FE x hx r hr e;subst this;simp [hd]
     ·simp [e]
    rw [hval];have:(ca.put r.o.dst v').tmps.getD t undef=ca.tmps.getD t undef:=by
     cases hdd:r.o.dst with
     |none=>rfl
     |some d=>
      have hne:¬d=t:=fun e=>hd (by rw [hdd,e])
      simp [Act.put,Array.getElem?_setIfInBounds,hne]
    rw [this];exact(hI.val t).mono pZ
  ·rw [←hI.defers];cases r.o.dst<;>rfl
  ·rw [Ym] at hxS;simp only [Bool.or_eq_false_iff,decide_eq_false_iff_not] at hxS;have h0:=hI.fresh x Yo hxS.1 k h1 h2;cases hE:E' k with
   |none=>rfl
   |some y=>
    rcases hx.dom k (by simp [hE]) with h3|h3
    ·exact absurd h0 h3
    ·simp only at h3;rcases Nat.lt_or_gt_of_ne hxS.2 with hlt|hgt
     ·have:=hT.apart x Yo r hr hlt;omega
     ·have:=hT.apart r hr x Yo hgt;omega
  ·refine⟨fun k x hk=>pZ k x (hI.ext.keep k x hk),fun k hk=>?_⟩;rcases hx.dom k hk with h1|h1
   ·exact hI.ext.dom k h1
   ·simp only at h1;exact .inr aa
  ·rw [Ym] at hj ⊢;rw [Bool.or_eq_true,decide_eq_true_eq] at hj;rcases hj with hj|hj
   ·rw [hI.closed j o e hj ho he hb];rfl
   ·subst hj;rw [hro] at ho;cases ho;rw [DY e he hb];rfl
end
theorem mK (listed:Array Bool) (i:Nat) (h:listed.getD i true=false):(listed.setIfInBounds i true).toList.count false+1=listed.toList.count false:=by
 have hi:i<listed.size:=by
  rcases Nat.lt_or_ge i listed.size with h'|h'
  ·exact h'
  ·simp [Array.getElem?_eq_none h'] at h
 have hv:listed[i]=false:=by simpa [hi] using h
 rw [Array.toList_setIfInBounds];rw [List.count_set (by simpa using hi)];have zK:false∈listed.toList:=by
  rw [List.mem_iff_getElem];exact⟨i,by simpa using hi,by simpa using hv⟩
 have hp:=List.count_pos_iff.2 zK;have e1:(listed.toList[i]'(by simpa using hi)==false)=true:=by simpa using hv
 rw [if_pos e1,if_neg ak];omega
theorem FH {H:Plain P X w0.w} (ki:gm P lo w0 self.code) (hc:gj P lo w0 self.call) {ρ:Option Nat} (a:aD):kR P lo w0 ρ (FA P X lo self ops a) a (fun ρ' Q ca w=>wpAnyIn (qJ ρ') 0 P .any ops Q ops.size (Array.replicate ops.size false) ca w):=by
 intro s e a' s' hr E0 g w ca Q ρ' hρ hR hA hF ha hQ;unfold FA at hr;obtain⟨q,s1,h1,h2⟩:=ax hr;cases fI:zB ops (nL ops.toList []) q.2 with
 |false=>simp only [fI] at h2;exact(au h2).elim
 |true=>
  simp only [fI,cond_true] at h2;obtain⟨h3,rfl⟩:=pure_run h2;cases h3;obtain⟨L,hT,hm,hTT,hWW⟩:=FC (P:=P) (X:=X) (lo:=lo) (self:=self) (ops:=ops) ops.toList 0 a s s' q h1;rw [hm] at fI;obtain⟨hlen,abr⟩:=hT.idx;have uW:∀(k:Nat) (x:xJ μ),L[k]?=some x→x.i=k∧ops.toList[k]?=some x.o:=fun k x hx=>by
   have:=abr k x hx;exact⟨by omega,this.2⟩
  obtain⟨sO,E9⟩:=BC uW fI;have hg:∀r∈L,∀k,(r.T.testBit k||r.W.testBit k)=true→g k=I.get s.mem k:=fun r hr k hk=>by
   refine hA k ?_;rw [hTT,hWW];rw [Bool.or_eq_true] at hk;rcases hk with hk|hk
   ·have:L.any (fun r=>r.T.testBit k)=true:=List.any_eq_true.2 ⟨r,hr,hk⟩;simp [this]
   ·have:L.any (fun r=>r.W.testBit k)=true:=List.any_eq_true.2 ⟨r,hr,hk⟩;simp [this]
  obtain⟨f1,f2,f3,f4⟩:=hT.frame;have done:∀(S:Nat→Bool) E ni w1,(∀i,i<ops.size→S i=true)→S9 P lo w0 ops I E0 g a ca s.next s'.next L S E ni w1→Q .normal ni w1:=fun S E ni w1 hS hI=>by
   have hSx:∀x∈L,S x.i=true:=fun x hx=>by
    obtain⟨k,hk⟩:=List.mem_iff_getElem?.1 hx;have:=(uW k x hk).1;have hlt:k<L.length:=(List.getElem?_eq_some_iff.1 hk).1;rw [this];exact hS k (by rw [hlen] at hlt;simpa using hlt)
   refine hQ E .normal ni w1 hI.ext trivial ⟨by rw [f1];exact hI.size,fun t=>?_,by rw [f2,hI.defers];exact ha.len,by rw [f2,hI.defers];exact fun j d d' h1 h2=>(ha.defers j d d' h1 h2).mono hI.ext.keep⟩ ?_
   ·have:=hI.val t;rw [(hT.vals t).2,←eU (p:=fun x=>S x.i && decide (x.o.dst=some t)) L (a.val t) (fun x hx=>by rw [hSx x hx,Bool.true_and])];exact this
   ·have hme:merge I s' g=fun k=>dZ (fun x=>S x.i && x.W.testBit k) (fun x=>I.get x.m1 k) (g k) L:=by
     funext k;rw [eU (q:=fun x=>x.W.testBit k) L (g k) (fun x hx=>by rw [hSx x hx,Bool.true_and])];unfold merge;rw [hWW];cases abt:L.any (fun r=>r.W.testBit k) with
     |true=>
      rw [if_pos ak,(hT.mem k).2];obtain⟨r,hr1,hr2⟩:=List.any_eq_true.1 abt;rw [hg r hr1 k (by simp [hr2])]
     |false=>
      have hnone:∀x∈L,x.W.testBit k=false:=fun x hx=>by
       cases hw:x.W.testBit k with
       |false=>rfl
       |true=>rw [List.any_eq_true.2 ⟨x,hx,hw⟩] at abt;cases abt
      rw [fL L _ hnone];split
      ·rename_i hw;rw [(hT.mem k).2,fL L _ hnone];exact(hA k (by rw [hTT,hWW];simp at hw;simp [hw])).symm
      ·rfl
    rw [hme];exact hI.rel
  have key:∀(fuel:Nat) (listed:Array Bool) E ni w1,listed.size=ops.size→listed.toList.count false≤fuel→S9 P lo w0 ops I E0 g a ca s.next s'.next L (fun i=>listed.getD i false) E ni w1→wpAnyIn (qJ ρ') 0 P .any ops Q fuel listed ni w1:=by
   intro fuel
   induction fuel with
   |zero=>
    intro listed E ni w1 hsz abu hI;have hall:∀i,i<ops.size→listed.getD i false=true:=fun i hi=>by
     exact Yp
    refine⟨?_,done _ E ni w1 hall hI⟩;apply List.eq_nil_iff_forall_not_mem.2;intro i hi;obtain⟨h4,o,ho,_⟩:=mem_ready.1 hi;have hlt:i<ops.size:=(Array.getElem?_eq_some_iff.1 ho).1;exact Yq
   |succ fuel ih=>
    intro listed E ni w1 hsz abu hI;constructor
    ·intro hnone;refine done _ E ni w1 ?_ hI;intro i
     induction i using Nat.strongRecOn with
     |_ i ihi=>
      intro hi;have hi':i<listed.size:=aa;cases hv:listed[i] with
      |true=>simp [hi',hv]
      |false=>
       exfalso;have:i∈Region.ready .any ops listed:=mem_ready.2 ⟨by simp [hi',hv],ops[i],by simp [hi],fun e he hb=>by
        have hlt:=E9 i ops[i] e (by simp [hi]) he hb;exact ihi e.on hlt aa⟩
       rw [hnone] at this;cases this
    ·intro i hi;obtain⟨h4,o,ho,hall⟩:=mem_ready.1 hi;have hlt:i<ops.size:=(Array.getElem?_eq_some_iff.1 ho).1;have hi':i<listed.size:=aa;have hL:i<L.length:=by rw [hlen];simpa using hlt
     obtain⟨q1,q2⟩:=uW i L[i] (by simp [hL]);have hoo:L[i].o=o:=by
      have:ops.toList[i]?=some o:=by simpa using ho
      rw [this] at q2;cases q2;rfl
     have h4':listed.getD i false=false:=by
      simp [hi'] at h4 ⊢;exact h4
     have hstep:=Hu (H:=H) (ρ':=ρ') (K:=wpAnyIn (qJ ρ') 0 P .any ops Q fuel (listed.setIfInBounds i true)) (Q:=Q) (S':=fun j=>(listed.setIfInBounds i true).getD j false) ki hc hT hg sO hI (r:=L[i]) (List.getElem_mem hL) (by rw [q1];exact h4') (by rw [hoo];exact hall)
      (fun j=>by
       rw [q1];by_cases e:j=i
       ·subst e;simp [hi']
       ·have hne:¬i=j:=fun h=>e h.symm
        simp [e,Array.getElem?_setIfInBounds,hne])
      (fun E' lT w' hI'=>ih _ E' lT w' (by simpa using hsz) (by have:=mK listed i h4;omega) hI')
     rw [q1] at hstep;exact hstep
  refine key ops.size _ E0 ca w ak ak ⟨?_,ha.size,fun t=>?_,rfl,fun r hr _ k h1 h2=>hF k (by have:=(f4 r hr).2.1;omega) (by have:=(f4 r hr).2.2.2.1;omega),⟨fun _ _ h=>h,fun _ h=>.inl h⟩,fun j o e hj=>?_⟩
  ·have:(fun k=>dZ (fun x:xJ μ=>(Array.replicate ops.size false).getD x.i false && x.W.testBit k) (fun x=>I.get x.m1 k) (g k) L)=g:=by
    funext k;exact fL L _ fun x hx=>by
     simp [Array.getElem?_replicate];intro h;split at h<;>simp at h
   rw [this];exact hR
  ·rw [fL L _ fun x hx=>by
     simp [Array.getElem?_replicate];intro h;split at h<;>simp at h]
   exact ha.val t
  ·exact tW
end Go.Am
/- A part of the proof. Conditions: none. -/
set_option maxRecDepth 100000
set_option maxHeartbeats 8000000
namespace Go.Am
open Go Go.RowKit
variable {F:Fence} {n:Nat} {μ:Type} {I:ir μ} {P:Program} {lo:eK} {w0:Bs} {X:Hk} {self:Self I} {ops:Array Oper}
theorem EY {o:Oper} {a:Act} {w:World} {K:Act→World→Prop} {Q Q1:Exit→Act→World→Prop} (hp:∀c a w,Q1 (.panic c) a w→Q (.panic c) a w) (hl:LetsOut Q1→LetsOut Q) (h:o.wpIn F n P a w K Q1):o.wpIn F n P a w K Q:=by
 unfold Oper.wpIn at*;refine⟨h.1, ?_⟩;have h:=h.2;generalize (o.semAt F.round a.eval).run P w=r at*;cases r with
 |ok nx w'=>
  cases nx<;>simp only [Oper.uponIn] at h ⊢<;>
   first
    |exact h
    |exact⟨h.1,CallsIn.mono h.2 (fun e w'' he=>by cases e<;>first|exact he|exact hp _ _ _ he|exact hl he)⟩
    |exact⟨h.1,RoundIn.mono h.2 (fun e w'' he=>by cases e<;>first|exact he|exact hp _ _ _ he|exact hl he)⟩
 |halt x w'=>cases x<;>simp only [Oper.uponIn] at h ⊢<;>first|exact h|exact hp _ _ _ h
theorem Ck {Q:Exit→Act→World→Prop} {listed:Array Bool} {a:Act} {w:World} (h:Region.ready .any ops listed=[]) (hQ:Q .normal a w):∀fuel,wpAnyIn F n P .any ops Q fuel listed a w
 |0=>⟨h,hQ⟩
 |fuel+1=>⟨fun _=>hQ,fun i hi=>by rw [h] at hi;cases hi⟩
def ahO (F:Fence) (n:Nat) (P:Program) (ops:Array Oper) (p:Oper) (Q:Exit→Act→World→Prop):Exit→Act→World→Prop
 | .normal,a,w=>wpListIn F n P ops Q [p] a w
 |e,a,w=>Q e a w
theorem Qk {pre:Array Oper} {p:Oper} {Q:Exit→Act→World→Prop} (AE:∀i o,pre[i]?=some o→(∀e∈o.after,Region.binds .any e=true→e.on<i)∧∀j b,o.guard=some (j,b)→j<pre.size)
  (hp:∀e∈p.after,Region.binds .any e=true→e.on<pre.size) (AG:∀i,i<pre.size→dK (pre.push p).toList pre.size i):
  ∀(fuel:Nat) (l:Array Bool) (a:Act) (w:World),l.size=pre.size→fY pre.toList (fun i=>l.getD i false)→wpAnyIn F n P .any pre (ahO F n P (pre.push p) p Q) fuel l a w→wpAnyIn F n P .any (pre.push p) Q (fuel+1) (l.push false) a w:=by
 intro fuel;have wS:∀(l:Array Bool) (d:Bool) i,i<l.size→(l.push false).getD i d=l.getD i d:=fun l d i hi=>by
  simp [Array.getD_eq_getD_getElem?,Array.getElem?_push,Nat.ne_of_lt hi]
 have afq:∀(l:Array Bool),(l.push false).getD l.size true=false:=fun l=>by
  simp [Array.getD_eq_getD_getElem?]
 have wT:∀i,i<pre.size→(pre.push p)[i]?=pre[i]?:=fun i hi=>by simp [Array.getElem?_push,Nat.ne_of_lt hi]
 have CL:(pre.push p)[pre.size]?=some p:=ak;have rdy:∀(l:Array Bool),l.size=pre.size→∀i,i<pre.size→(i∈Region.ready .any (pre.push p) (l.push false)↔i∈Region.ready .any pre l):=fun l hl i hi=>by
  exact Xo
 have Q6:∀(l:Array Bool),l.size=pre.size→∀i,i∈Region.ready .any (pre.push p) (l.push false)→i<pre.size∨i=pre.size:=fun l hl i hi=>by
  exact Ju
 have full:∀(l:Array Bool),l.size=pre.size→fY pre.toList (fun i=>l.getD i false)→pre.size∈Region.ready .any (pre.push p) (l.push false)→∀i,i<pre.size→l.getD i false=true:=fun l hl hc hn i hi=>by
  exact Xp
 have none:∀(l:Array Bool),(∀i,i<pre.size→l.getD i false=true)→l.size=pre.size→Region.ready .any pre l=[]:=fun l hl hsz=>by
  exact Xq
 have fin:∀(fuel:Nat) (l:Array Bool) (a:Act) (w:World),l.size=pre.size→(∀i,i<pre.size→l.getD i false=true)→wpListIn F n P (pre.push p) Q [p] a w→wpOpIn F n P (pre.push p) Q pre.size (wpAnyIn F n P .any (pre.push p) Q fuel ((l.push false).setIfInBounds pre.size true)) a w:=fun fuel l a w hl hall h=>by
  have hr:Region.ready .any (pre.push p) ((l.push false).setIfInBounds pre.size true)=[]:=by
   exact Xr
  unfold wpListIn at h;unfold wpOpIn;simp only [CL];split
  ·rename_i hw;rw [if_pos hw] at h;exact Oper.wpIn_mono (fun a w h=>Ck hr h fuel) h
  ·rename_i hw;rw [if_neg hw] at h;exact⟨h.1,Ck hr h.2 fuel⟩
 have kn:∀(l:Array Bool),l.size=pre.size→Region.ready .any (pre.push p) (l.push false)=[]→False:=fun l hl h=>by
  exact Xs
 induction fuel with
 |zero=>
  exact Xt
 |succ fuel ih=>
  intro l a w hl hc h;refine⟨fun hn=>(kn l hl hn).elim,fun i hi=>?_⟩;rcases Q6 l hl i hi with hlt|rfl
  ·have E8:=(rdy l hl i hlt).1 hi;have h2:=h.2 i E8;obtain⟨q1,o,ho,Jv⟩:=mem_ready.1 E8;have lq:i<l.size:=aa;have aan:(l.push false).setIfInBounds i true=(l.setIfInBounds i true).push false:=by
    exact Xu
   have CN:fY pre.toList (fun j=>(l.setIfInBounds i true).getD j false):=fun j o' e hj Cy he hb=>by
    exact Xv
   rw [aan];unfold wpOpIn at h2 ⊢;rw [wT i hlt];simp only [ho] at h2 ⊢;have Jw:Region.wanted o (yielded (pre.push p) a.tmps)=Region.wanted o (yielded pre a.tmps):=by
    exact Xw
   rw [Jw];split
   ·rename_i hw;rw [if_pos hw] at h2;exact EY (fun c a w h=>h) (fun h=>h) (Oper.wpIn_mono (fun a w h=>ih _ a w (by simpa using hl) CN h) h2)
   ·rename_i hw;rw [if_neg hw] at h2;exact⟨h2.1,ih _ _ w (by simpa using hl) CN h2.2⟩
  ·have hall:=full l hl hc hi;exact fin (fuel+1) l a w hl hall (h.1 (none l hall hl))
theorem tX {p:Oper} (h:wU ops=some p):ops=ops.pop.push p∧(∀i o,ops.pop[i]?=some o→(∀e∈o.after,Region.binds .any e=true→e.on<i)∧∀j b,o.guard=some (j,b)→j<ops.pop.size)∧
  (∀e∈p.after,Region.binds .any e=true→e.on<ops.pop.size)∧∀i,i<ops.pop.size→dK ops.toList ops.pop.size i:=by
 unfold wU at h;cases hb:ops.back? with
 |none=>rw [hb] at h;cases h
 |some p'=>
  rw [hb] at h;simp only at h
  ·cases hk:((ops.toList.zipIdx.all fun(o,i)=>zC ops.pop.size i o) && ((List.range ops.pop.size).all fun i=>((nL ops.toList []).getD ops.pop.size 0).testBit i)) with
   |false=>rw [hk] at h;cases h
   |true=>
    rw [hk] at h;cases h;simp only [Bool.and_eq_true] at hk;have hne:ops≠#[]:=by rintro rfl;simp at hb
    have hsz:0<ops.size:=Array.size_pos_iff.2 hne;have heq:ops=ops.pop.push p:=by
     have hpb:p=ops.back hsz:=by
      rw [Array.back?_eq_getElem?] at hb;have h1:ops.size - 1<ops.size:=aa;rw [Array.getElem?_eq_getElem h1] at hb;cases hb;rfl
     rw [hpb];apply Array.ext_getElem?;intro k;rw [Array.getElem?_push,Array.getElem?_pop];simp only [Array.size_pop];by_cases hk2:k=ops.size - 1
     ·subst hk2;rw [if_pos rfl,Array.getElem?_eq_getElem aa];rfl
     ·rw [if_neg hk2];by_cases hk3:k<ops.size - 1
      ·rw [if_pos hk3]
      ·rw [if_neg hk3,Array.getElem?_eq_none aa]
    have fu:∀i o,ops[i]?=some o→zC ops.pop.size i o=true:=fun i o ho=>by
     have hm:(o,i)∈ops.toList.zipIdx:=by rw [List.mem_zipIdx_iff_getElem?];simpa using ho
     exact List.all_eq_true.1 hk.1 _ hm
    have aak:∀i o,ops[i]?=some o→(∀e∈o.after,Region.binds .any e=true→e.on<i)∧∀j b,o.guard=some (j,b)→j<ops.pop.size:=fun i o ho=>by
     have h1:=fu i o ho;unfold zC at h1;simp only [Bool.and_eq_true,Array.all_eq_true_iff_forall_mem] at h1;refine⟨fun e he hbd=>?_,fun j b hg=>?_⟩
     ·have:=h1.1 e he;rw [hbd,blt_eq] at this;simpa using this
     ·have:=h1.2;rw [hg] at this;simp only [blt_eq,decide_eq_true_eq] at this;exact this
    refine⟨heq,fun i o ho=>aak i o ?_,(aak ops.pop.size p ?_).1,fun i hi=>?_⟩
    ·rw [heq,Array.getElem?_push];have:=(Array.getElem?_eq_some_iff.1 ho).1;rw [if_neg aa];exact ho
    ·have h5:(ops.pop.push p)[ops.pop.size]?=some p:=Array.getElem?_push_size;rw [←heq] at h5;exact h5
    ·exact kJ ops.toList ops.toList [] (fun k o hk=>by simpa using hk) (fun j i h=>by simp at h) _ i (List.all_eq_true.1 hk.2 i (List.mem_range.2 hi))
theorem Ql {H:Plain P X w0.w} (ki:gm P lo w0 self.code) (hc:gj P lo w0 self.call) {ρ:Option Nat} (a:aD):kR P lo w0 ρ (LH P X lo ρ self ops a) a (fun ρ' Q ca w=>wpAnyIn (qJ ρ') 0 P .any ops Q ops.size (Array.replicate ops.size false) ca w):=by
 intro s e a' s' hr E g w ca Q ρ' hρ hR hA hF ha hQ;unfold LH at hr;cases hl:wU ops with
 |none=>rw [hl] at hr;exact FH (H:=H) ki hc a s e a' s' hr E g w ca Q ρ' hρ hR hA hF ha hQ
 |some p=>
  rw [hl] at hr;obtain⟨heq,h1,h2,h3⟩:=tX hl;obtain⟨r,s1,q1,q2⟩:=ax hr;have iQ:St.Le I s1 s':=M.le _ _ _ _ q2;obtain⟨e1,a1⟩:=r;have hsz:ops.size=ops.pop.size+1:=by
   have:=congrArg Array.size heq;simpa using this
  have main:wpAnyIn (qJ ρ') 0 P .any ops.pop (ahO (qJ ρ') 0 P ops p Q) ops.pop.size (Array.replicate ops.pop.size false) ca w:=by
   refine FH (H:=H) ki hc a s e1 a1 s1 q1 E g w ca _ ρ' hρ hR (hA.first iQ) (hF.first iQ.next) ha fun E' ce lT w' hx he ha' tu=>?_
   obtain⟨gY,lU,lD,nh⟩:=chain q1 iQ hA hF hx;cases e1 with
   |normal=>
    cases ce<;>first|exact he.elim|skip
    exact iJ H ki hc [p] a1 s1 e a' s' q2 E' _ w' lT Q ρ' (hρ.mono hx.keep) tu gY lU ha' fun E2 ce2 ca2 w2 hx2 Jb ha2 qI=>hQ E2 ce2 ca2 w2 (lD E2 hx2) Jb ha2 (by rw [nh] at qI;exact qI)
   |_=>
    obtain⟨h4,rfl⟩:=pure_run q2;cases h4;have:=hQ E' ce lT w' hx he ha' tu;cases ce<;>first|exact he.elim|exact this
  have key:=Qk (F:=qJ ρ') (n:=0) (P:=P) (Q:=Q) h1 h2 (fun i hi=>by rw [←heq];exact h3 i hi) ops.pop.size (Array.replicate ops.pop.size false) ca w ak (fun j o e hj=>by
   simp [Array.getElem?_replicate] at hj;split at hj<;>simp at hj) (by rw [←heq];exact main)
  exact Jx
end Go.Am
/- A part of the proof. Conditions: none. -/
set_option maxRecDepth 100000
set_option maxHeartbeats 8000000
namespace Go.Am
open Go Go.RowKit
variable {μ:Type} {I:ir μ} {P:Program} {lo:eK} {w0:Bs} {E:Env}
def gB {α:Type} (P:Program) (c:Sem α):Prop:=∀w v w',c.run P w=.ok v w'→w'=w
theorem gB.pure {α:Type} (a:α):gB P (Pure.pure a:Sem α):=fun w v w' h=>by cases h;rfl
theorem gB.halt {α:Type} (x:Halt):gB P (Sem.halt x:Sem α):=fun w v w' h=>by cases h
theorem gB.bind {α β:Type} {c:Sem α} {f:α→Sem β} (h:gB P c) (hf:∀a,gB P (f a)):gB P (c>>=f):=fun w v w' hr=>by
 rw [Sem.run_bind] at hr;cases hc:c.run P w with
 |halt x w1=>rw [hc] at hr;cases hr
 |ok a w1=>
  rw [hc] at hr;have:=h w a w1 hc;subst this;exact hf a _ _ _ hr
theorem gB.program:gB P program:=fun w v w' h=>by cases h;rfl
theorem gB.info (t:TypeId):gB P (typeInfo t):=by
 unfold typeInfo;refine gB.bind gB.program fun p=>?_
 split
 ·exact gB.pure _
 ·exact gB.halt _
theorem gB.under (t:TypeId):gB P (underlying t):=by
 unfold underlying;refine gB.bind gB.program fun p=>?_
 split
 ·exact gB.pure _
 ·exact gB.halt _
theorem gB.load (a:Addr) (m:Mode):gB P (load a m):=fun w v w' h=>by
 rw [run_load] at h;split at h
 ·cases h;rfl
 ·split at h
  ·cases h;rfl
  ·cases h
theorem gB.cells (a:Addr):∀(n i:Nat) (acc:Array Value),gB P (loadCellsFrom a i n acc)
 |0,i,acc=>gB.pure _
 |n+1,i,acc=>by
  unfold loadCellsFrom;exact gB.bind (gB.load _ _) fun v=>gB.cells a n _ _
theorem gB.var (t:TypeId) (a:Addr):gB P (loadVar t a):=by
 unfold loadVar isAgg;refine gB.bind (gB.bind (gB.under t) fun d=>?_) fun b=>?_
 ·split<;>exact gB.pure _
 ·split
  ·refine gB.bind (gB.bind (gB.info t) fun i=>gB.pure _) fun n=>gB.bind (gB.cells a n 0 _) fun cs=>gB.pure _
  ·exact gB.load _ _
theorem Cq {α β:Type} (f:α→Sem β) (xs:Array α):(xs.mapM f)=(do let l←xs.toList.mapM f;pure l.toArray):=by
 obtain⟨l⟩:=xs;rw [List.mapM_toArray,map_eq_pure_bind]
theorem vV {a:aD} {ca:Act}:∀(l:List ResultVar) (E:Env) (H:(Nat→Option Obj)→Prop),(∀i,VR E (a.val i) (ca.tmps.getD i undef))→az P lo w0 E H (RI P a l:M I (List Value)) (l.mapM fun
  | .tmp t=>pure (ca.tmps.getD t undef)
  | .cell x t=>do loadVar t (←asAddr (ca.tmps.getD x undef))) LR
 |[],E,H,ha=>az.pure fun E1 hE=>⟨rfl,fun a c j h=>by simp at h⟩
 | .tmp t::l,E,H,ha=>by
  rw [List.mapM_cons];refine az.left (b:=ca.tmps.getD t undef) (fun w=>rfl) (az.bind (vV l E H ha) fun E1 vs cs hE wA=>az.pure fun E2 Bz=>?_);refine⟨by simp [wA.1],fun x y j hx hy=>?_⟩;rcases j with _|j
  ·simp only [List.getElem?_cons_zero,Option.some.injEq] at hx hy;subst hx;subst hy;exact(ha t).mono fun k x hk=>Bz k x (hE k x hk)
  ·simp only [List.getElem?_cons_succ] at hx hy;exact(wA.2 x y j hx hy).mono Bz
 | .cell x t::l,E,H,ha=>by
  rw [List.mapM_cons];have hv:=ha x;refine az.bind (R:=VR) (c:=do loadVar t (←asAddr (ca.tmps.getD x undef))) ?_ fun E1 v v' hE hvv=>az.bind (vV l E1 S4 fun i=>(ha i).mono hE) fun E2 vs cs Bz wA=>az.pure fun E3 Yj=>?_
  ·unfold AJ;generalize ca.tmps.getD x undef=q at hv;split
   ·rename_i k o QI;rw [QI] at hv;cases hv with
    |ptr hk=>exact az.left (b:=_) (fun w=>rfl) (ua hk)
   ·exact az.fail
  ·refine⟨by simp [wA.1],fun x y j hx hy=>?_⟩;rcases j with _|j
   ·simp only [List.getElem?_cons_zero,Option.some.injEq] at hx hy;subst hx;subst hy;exact hvv.mono fun k x hk=>Yj k x (Bz k x hk)
   ·simp only [List.getElem?_cons_succ] at hx hy;exact(wA.2 x y j hx hy).mono Yj
theorem AU (fn:Func) (tmps:Array Value):gB P (results fn tmps):=by
 unfold results;refine gB.bind ?_ fun vs=>gB.pure _
 rw [Cq];refine gB.bind ?_ fun vs=>gB.pure _
 induction fn.results.toList with
 |nil=>exact gB.pure _
 |cons r l ih=>
  rw [List.mapM_cons];refine gB.bind ?_ fun v=>gB.bind ih fun vs=>gB.pure _
  cases r with
  |tmp t=>exact gB.pure _
  |cell x t=>
   refine gB.bind ?_ fun a=>gB.var t a
   cases tmps.getD x undef<;>first|exact gB.halt _|skip
   rename_i p;cases p with
   |some p=>exact gB.pure _
   |none=>exact fun w v w' h=>by simp [asAddr,runtimePanic] at h
theorem JZ {fn:Func} {a:aD} {ca:Act} (ha:∀i,VR E (a.val i) (ca.tmps.getD i undef)):az P lo w0 E S4 (aaA P fn a:M I Value) (results fn ca.tmps) VR:=by
 unfold aaA results;rw [Cq,bind_assoc];refine az.bind (vV _ E _ ha) fun E1 vs cs hE wA=>?_
 rw [pure_bind];obtain⟨h1,h2⟩:=wA;split
 ·rename_i v;obtain⟨c,rfl⟩:=List.length_eq_one_iff.1 h1.symm;refine az.pure fun E2 Bz=>?_
  have:VR E1 v c:=h2 v c 0 rfl rfl;simpa using this.mono Bz
 ·rename_i vs hne;refine az.pure fun E2 Bz=>?_
  have akW:¬cs.toArray.size=1:=fun h=>by
   simp at h;obtain⟨v,hv⟩:=List.length_eq_one_iff.1 (h1.trans h);exact hne v hv
  rw [dif_neg akW];exact .tuple (by simpa using h1) fun x y j hx hy=>(h2 x y j (by simpa using hx) (by simpa using hy)).mono Bz
theorem Rel.aaD {g:Nat→Option Obj} {w w':World} (h:Rel P lo w0 E g w) (hb:Below w.heap.size w w'):Rel P lo w0 E g w':=
 ⟨h.below.trans (hb.mono h.below.size),fun k o hk=>by
  obtain⟨b,r,co,h1,h2,h3⟩:=h.tie k o hk;exact⟨b,r,co,h1,by rw [hb.block b (Array.getElem?_eq_some_iff.1 h2).1];exact h2,h3⟩,h.inj,h.own,h.old,h.kept⟩
theorem kR.same {ρ:Option Nat} {a:aD} {x:bX} {C:Option Nat→(Exit→Act→World→Prop)→Act→World→Prop} (h:∀E ca w Q ce ρ',yI E x ce→Q ce ca w→C ρ' Q ca w) (hx:∀E,∃ce,yI E x ce):kR P lo w0 ρ (pure (x,a):M I (bX × aD)) a C:=by
 intro s e a' s' hr E g w ca Q ρ' hρ hR hA hF ha hQ;obtain⟨h1,rfl⟩:=pure_run hr;cases h1;obtain⟨ce,hce⟩:=hx E;exact h E ca w Q ce ρ' hce (hQ E ce ca w (.refl _ _) hce ha xg)
theorem Gf {self:Self I} (hc:gm P lo w0 self.code) (ρ:Option Nat) (c:Code):∀(n:Nat) (a:aD),kR P lo w0 ρ (LG self ρ c n a) a (fun ρ' Q ca w=>Code.roundsIn (qJ ρ') 0 P c Q n ca w)
 |0,a=>fun s e a' s' hr=>(au hr).elim
 |n+1,a=>by
  intro s e a' s' hr E g w ca Q ρ' hρ hR hA hF ha hQ;obtain⟨⟨x,a1⟩,s1,h1,h2⟩:=ax hr;have hle:St.Le I s1 s':=M.le _ _ _ _ h2;show c.wpIn (qJ ρ') 0 P _ ca w;refine hc ρ c a s x a1 s1 h1 E g w ca _ ρ' hρ hR (hA.first hle) (hF.first hle.next) ha fun E1 ce ni w1 hx1 rN ha1 pq=>?_
  obtain⟨gY,lU,lD,nh⟩:=chain h1 hle hA hF hx1;cases x with
  |normal=>
   cases ce<;>simp only [yI] at rN<;>first|exact rN.elim|skip
   exact Gf hc ρ c n a1 s1 e a' s' h2 E1 _ w1 ni Q ρ' (hρ.mono hx1.keep) pq gY lU ha1 fun E' ce lT w' Mg CC ha' tu=>hQ E' ce lT w' (lD E' Mg) CC ha' (by rw [nh] at tu;exact tu)
  |exit id=>
   exact vw
  |ret=>
   exact zR
  |panic v=>
   exact vw
theorem Cr {b:Frame} {a:Act} {k:List Item} {cs:List Frame} {w:World} {c:Code}:step P (lone (b.atR a (.code (.scope c)::k)) cs w)=.next (lone (b.atR a (.code c::.inScope c::k)) cs w):=
 step_lone_go (by simp [stepG,stepG.exec,Frame.atR])
theorem wP {b:Frame} {a:Act} {k:List Item} {cs:List Frame} {w:World} {c:Code}:step P (lone (b.atR a (.inScope c::k)) cs w)=.next (lone (b.atR a k) cs w):=
 step_lone_go (by simp [stepG,stepG.exec,Frame.atR])
theorem nK {F:Fence} {n:Nat} {Q:Exit→Act→World→Prop} {a:Act} {w:World} {c:Code} (h:c.wpIn F n P (Exit.noGoto Q) a w):(Code.scope c).wpIn F n P Q a w:=by
 intro b k cs hro hb hr;obtain⟨e,a₁,w₁,hq,sP⟩:=h b (.inScope c::k) cs hro hb hr;have s0:StepsIn (Machine.fenced P F) P (lone (b.atR a (.code (.scope c)::k)) cs w) (lone (b.atR a (.code c::.inScope c::k)) cs w):=.one (fenced_calm hb hr rfl) Cr;cases e with
 |normal=>exact⟨.normal,a₁,w₁,hq,StepsIn.trans s0 (StepsIn.trans sP (.one (fenced_calm hb hr rfl) wP))⟩
 |exit id=>
  have hx:exitTo id (.inScope c::k)=exitTo id k:=by simp [exitTo]
  exact⟨.exit id,a₁,w₁,hq,fun k' hk=>StepsIn.trans s0 (sP.1 k' (by rw [hx];exact hk)),fun CD hk=>let ⟨k₁,h1,h2⟩:=sP.2 CD (by rw [hx];exact hk);⟨k₁,h1,StepsIn.trans s0 h2⟩⟩
 |goto l=>exact hq.elim
 |ret=>exact⟨_,a₁,w₁,hq,.of_steps s0 sP⟩
 |panic ch=>exact⟨_,a₁,w₁,hq,.of_steps s0 sP⟩
 |outgrown=>exact⟨_,a₁,w₁,hq,.of_steps s0 sP⟩
theorem E6 {o co:Obj} {k:Nat} {s s1:St μ} (h:(new o:M I Nat).run s=some (k,s1)) {E:Env} {g:Nat→Option Obj} {w:World} (hR:Rel P lo w0 E g w) (hA:dx I s s1 g) (hF:fN s s1 E)
  (ho:∀E',(∀i x,E i=some x→E' i=some x)→OR P E' 0 o co):∃E1,Env.Ext E E1 s.next s1.next∧E1 k=some (w.heap.size,0)∧Rel P lo w0 E1 (merge I s1 g) (w.alloc co):=by
 obtain⟨rfl,e2,e3,e4,e5,e6⟩:=zF h;have hk:E s.next=none:=hF s.next (Nat.le_refl _) aa;refine⟨E.put s.next w.heap.size 0,⟨Env.fF hk,fun i hi=>?_⟩,by simp [Env.put], ?_⟩
 ·exact MM
 ·rw [eO hA e5 e6];refine hR.name hk (hR.alloc _) hR.below.size (fK w _) (fun i _ hi=>Below.heap_alloc w _ i hi) (fun i o' r' hi he=>?_) (ho _ (Env.fF hk));exact absurd (hR.lt hi he) (Nat.lt_irrefl _)
theorem vW {E:Env} {a:aD} {ca:Act} (ha:kB E a ca):fU E (tmpsOf a) ca.tmps:=by
 refine⟨by simp [tmpsOf,ha.size],fun x y j hx hy=>?_⟩;have hj:j<ca.tmps.size:=(Array.getElem?_eq_some_iff.1 hy).1;have h1:=ha.val j;have h2:ca.tmps.getD j undef=y:=by simp [Array.getD_eq_getD_getElem?,hy]
 have h3:x=a.val j:=by
  unfold tmpsOf at hx;rw [List.getElem?_toArray,List.getElem?_map] at hx;have hj':j<a.n:=by rw [←ha.size];exact hj
  rw [List.getElem?_range hj'] at hx;simpa using hx.symm
 rw [h3,←h2];exact h1
theorem Qs {ρ ρ':Option Nat} {a:aD} {ca:Act} {ps:Array Tmp} {as b:Code} {l:Nat} {mark:List Deferred} {s s1:St μ} (h:(oJ ρ a ps as b:M I (Nat × List Deferred)).run s=some ((l,mark),s1)) {E:Env} {g:Nat→Option Obj} {w:World}
  (hρ:Me E ρ ρ') (hR:Rel P lo w0 E g w) (hA:dx I s s1 g) (hF:fN s s1 E) (ha:kB E a ca) (fn:FuncId):
  ∃E1 bl Gg w1,(Instr.enterLoop fn ca.tmps ps as b ρ').run P w=.ok (bl,Gg) w1∧Env.Ext E E1 s.next s1.next∧(∃q,E1 l=some (bl,q))∧kB E1 (marked a mark) {ca with defers:=Gg++ca.defers}∧Rel P lo w0 E1 (merge I s1 g) w1:=by
 unfold oJ at h;cases ρ with
 |none=>
  cases ρ' with
  |some x=>exact hρ.elim
  |none=>
  simp only at h;obtain⟨r,s2,h1,h2⟩:=ax h;obtain⟨l',s3,h3,h4⟩:=ax h2;obtain⟨h5,rfl⟩:=pure_run h4;cases h5;have l1:=(new (I:=I) (.deferred (some []))).le _ _ _ h1;have l2:=M.le _ _ _ _ h3;obtain⟨E1,x1,k1,R1⟩:=E6 h1 hR (hA.first l2) (hF.first l2.next) (co:=.deferred (some [])) (fun _ _=>.collected);obtain⟨gY,lU,lD,nh⟩:=chain h1 l2 hA hF x1;have ht:=vW (ha.mono x1.keep);obtain⟨E2,x2,k2,R2⟩:=E6 h3 R1 gY lU (co:=.loop {state:=.ready,pending:=none,fn,tmps:=ca.tmps,params:=ps,assign:=as,body:=b,defers:=w.heap.size})
   (fun E' hE'=>.loop rfl rfl rfl rfl rfl ht.1 (fun a c j h1 h2=>(ht.2 a c j h1 h2).mono hE') (hE' _ _ k1))
  have hx:=lD E2 x2;refine⟨E2,_,_,_,run_enterLoop_outer fn ca.tmps ps as b,hx,⟨0,by rw [k2,World.size_alloc]⟩, ?_,by rw [nh] at R2;exact R2⟩;have hm:=ha.mono hx.keep;refine⟨hm.size,hm.val,by simp [marked,hm.len],fun j d d' hd hd'=>?_⟩;rcases j with _|j
  ·simp [marked] at hd hd';subst hd hd';exact .inr ⟨_,_,0,rfl,rfl,x2.keep _ _ k1⟩
  ·simp [marked] at hd hd';exact hm.defers j d d' hd hd'
 |some k=>
  cases ρ' with
  |none=>exact hρ.elim
  |some bk=>
  obtain⟨q,hq⟩:=hρ;simp only at h;obtain⟨ob,s2,h1,h2⟩:=ax h;cases ob with
  |loop r0=>
   simp only at h2;obtain⟨l',s3,h3,h4⟩:=ax h2;obtain⟨h5,rfl⟩:=pure_run h4;cases h5;obtain⟨e1,e2,e3,e4,e5⟩:=jA h1;have l2:=M.le _ _ _ _ h3;have hm:merge I s2 g=g:=dA (hA.first l2) (fun k=>by rw [e4]) (fun k=>by rw [e3]);have l1:=(rd (I:=I) k).le _ _ _ h1;have gY:dx I s2 s1 g:=Bj;have lU:fN s2 s1 E:=fun i h1 h2=>hF i aa h2
   have hg:g k=some (.loop r0):=Mf;obtain⟨y,q',y0,y1,y2,y3,y4,y5,y6,y7⟩:=tq hR hg hq;have ht:=vW ha;obtain⟨E2,x2,k2,R2⟩:=E6 h3 hR gY lU (co:=.loop {state:=.ready,pending:=none,fn,tmps:=ca.tmps,params:=ps,assign:=as,body:=b,defers:=y.defers})
    (fun E' hE'=>.loop rfl rfl rfl rfl rfl ht.1 (fun a c j h1 h2=>(ht.2 a c j h1 h2).mono hE') (hE' _ _ y7))
   have hx:Env.Ext E E2 s.next s1.next:=⟨x2.keep,fun i hi=>(x2.dom i hi).imp id fun h=>by rw [e2] at h;exact h⟩;refine⟨E2,_,_,_,run_enterLoop_inner y0 fn ca.tmps ps as b,hx,⟨0,k2⟩, ?_,R2⟩;have hm:=ha.mono hx.keep;exact⟨hm.size,hm.val,by simp [marked,hm.len],fun j d d' hd hd'=>hm.defers j d d' (by simpa [marked] using hd) (by simpa using hd')⟩
  |_=>exact(au h2).elim
theorem Qt {X:Hk} (H:Plain P X w0.w) {self:Self I} (hk:gj P lo w0 self.call) {ρ:Option Nat} (g0:Operand) (ps:Array Tmp) (as b:Code) (a:aD):kR P lo w0 ρ (zi X lo self ρ g0 ps as b a) a (fun ρ' Q ca w=>(Code.rangeFunc g0 ps as b).wpIn (qJ ρ') 0 P Q ca w):=by
 intro s e a' s' hr E g w ca Q ρ' hρ hR hA hF ha hQ;unfold zi at hr;obtain⟨⟨l,mark⟩,s1,h1,h2⟩:=ax hr;have hle:St.Le I s1 s':=M.le _ _ _ _ h2;unfold LF at h2;split at h2
 ·rename_i f first cap hv
  cases hx:X.X f with
  |false=>rw [hx] at h2;exact(au h2).elim
  |true=>
   rw [hx,cond_true] at h2;obtain⟨en,s2,h3,h4⟩:=ax h2;have iQ:St.Le I s2 s':=M.le _ _ _ _ h4;obtain⟨fn',f1,f2,f3⟩:=H.x f hx;have f3':fn'.body≠none:=fun e=>by rw [e] at f3;cases f3
   have f2' : ¬ fn'.name = "runtime.NumGoroutine" := by simpa using f2
   have hvr:=ha.ev (lo:=lo) hR.old _ _ hv;generalize hq:ca.eval g0=gv at hvr;cases hvr with
   | @func _ _ _ cs ds g1 g2 g3 g4=>
    refine wpIn_rangeFunc fun fn _=>?_
    obtain⟨E1,bl,Gg,w1,hrun,x1,⟨q,iq⟩,ha1,R1⟩:=Qs (ρ':=ρ') h1 hρ hR (hA.first hle) (hF.first hle.next) ha fn;obtain⟨gY,lU,lD,nh⟩:=chain h1 hle hA hF x1;refine⟨bl,Gg,w1,{target:=.fn (.func f) ds,args:=cs++#[.func (.yield bl) #[] #[]]},w1,f,cs++#[.func (.yield bl) #[] #[]]++ds,w1,hrun, ?_,fun _ _=>trivial, ?_,iF,mD ?_⟩
    ·have hc:ca.eval (.const (.func (.yield bl) #[] #[]))=.func (.yield bl) #[] #[]:=rfl;simp [resolve,hq,hc,Deferred.ofValue]
    ·simp [invoke,callFunc,f1,f2',f3']
    ·have cG:fU E1 (first++#[.func (.yield l) #[] #[]]++cap) (cs++#[.func (.yield bl) #[] #[]]++ds):=
      fU.append (fU.append (fU.mono x1.keep ⟨g1,g2⟩) ⟨rfl,fun x y j hx hy=>by
       rcases j with _|j
       ·simp at hx hy;subst hx hy;exact .yield iq
       ·simp at hx⟩) (fU.mono x1.keep ⟨g3,g4⟩)
     refine(hk f _ s1 en s2 h3 E1 _ w1 _ R1 (gY.first iQ) (lU.first iQ.next) cG).mono fun e2 w2 ⟨E2,x2,hen,R2⟩=>?_
     obtain⟨Av,hF2,qC,yJ⟩:=chain h3 iQ gY lU x2;have ha2:=ha1.mono x2.keep;have BH:=x2.keep _ _ iq;unfold uJ at h4;cases en with
     |panic v=>
      cases e2 with
      |returned v'=>exact hen.elim
      |outgrown=>exact hen.elim
      |panicked c=>
       simp only at h4;obtain⟨h5,rfl⟩:=pure_run h4;cases h5;exact hQ E2 (.panic c) _ w2 (lD E2 x2) hen ha2 (by rw [nh] at R2;exact R2)
     |ret v=>
      cases e2 with
      |panicked c=>exact hen.elim
      |outgrown=>exact hen.elim
      |returned v'=>
       simp only at h4;obtain⟨jump,s3,h5,h6⟩:=ax h4;have jK:St.Le I s3 s':=M.le _ _ _ _ h6;unfold Be at h5;obtain⟨ob,s4,h7,h8⟩:=ax h5;cases ob with
       |loop r=>
        simp only at h8;have hst:r.state≠ .busy:=fun e=>by rw [e] at h8;exact(au h8).elim
        have h8':(wr lo l (some (.loop {r with state:=.exhausted}))>>=fun _=>pure r.pending:M I (Option Code)).run s4=some (jump,s3):=by
         cases hs:r.state<;>rw [hs] at h8<;>first|exact absurd hs hst|exact h8
        obtain⟨u,s5,h9,h10⟩:=ax h8';obtain⟨h11,rfl⟩:=pure_run h10;have hgr:merge I s2 (merge I s1 g) l=some (.loop r):=by
         obtain⟨e1',e2',e3',e4',e5'⟩:=jA h7;have l6:=M.le _ _ _ _ h9;rw [(Av.first jK) l (by rw [l6.T l e5',Bool.true_or]),e1']
        obtain⟨y,q',y0,y1,y2,y3,y4,y5,y6,y7⟩:=tq R2 hgr BH;obtain⟨n1,R3⟩:=zv h7 h9 R2 (Av.first jK) BH y0 (y':={y with state:=.exhausted}) (fun q=>.loop rfl y2 y3 y4 y5 y6.1 y6.2 y7);have x3:Env.Ext E2 E2 s2.next s3.next:=⟨fun _ _ h=>h,fun _ h=>.inl h⟩;obtain⟨hA3,hF3,hX3,hm3⟩:=chain h5 jK Av hF2 x3;refine⟨y.pending,_,run_endLoop y0 (by rw [y1];exact hst), ?_⟩;rw [y2,←h11];rw [y2,←h11] at R3;have A4:merge I s3 (merge I s2 (merge I s1 g))=merge I s3 g:=by rw [jq _ (M.le _ _ _ _ h5),jq _ ((M.le _ _ _ _ h3).trans (M.le _ _ _ _ h5))]
        rw [A4] at R3;unfold X0 at h6;split at h6
        ·obtain⟨j1,rfl⟩:=pure_run h6;cases j1;exact hQ E2 .normal _ _ (lD E2 (qC E2 x3)) trivial ha2 R3
        ·obtain⟨j1,rfl⟩:=pure_run h6;cases j1;exact wpIn_ret (hQ E2 .ret _ _ (lD E2 (qC E2 x3)) trivial ha2 R3)
        ·obtain⟨j1,rfl⟩:=pure_run h6;cases j1;exact wpIn_exit (hQ E2 (.exit _) _ _ (lD E2 (qC E2 x3)) rfl ha2 R3)
        ·exact(au h6).elim
       |_=>exact(au h8).elim
 ·exact(au h2).elim
theorem Ri (hm:P.follows .mixedOrders=true) {X:Hk} (H:Plain P X w0.w) {self:Self I} (hc:gm P lo w0 self.code) (hk:gj P lo w0 self.call):gm P lo w0 (AR P X lo self):=by
 intro ρ c a;cases c with
 |skip=>exact kR.same (fun E ca w Q ce _ he hq=>by cases ce<;>simp only [yI] at he<;>first|exact he.elim|exact wpIn_skip hq) (fun E=>⟨.normal,trivial⟩)
 |label l=>exact kR.same (fun E ca w Q ce _ he hq=>by cases ce<;>simp only [yI] at he<;>first|exact he.elim|exact wpIn_label hq) (fun E=>⟨.normal,trivial⟩)
 |ret=>exact kR.same (fun E ca w Q ce _ he hq=>by cases ce<;>simp only [yI] at he<;>first|exact he.elim|exact wpIn_ret hq) (fun E=>⟨.ret,trivial⟩)
 |exit id=>exact kR.same (fun E ca w Q ce _ he hq=>by cases ce<;>simp only [yI] at he<;>first|exact he.elim|(subst he;exact wpIn_exit hq)) (fun E=>⟨.exit id,rfl⟩)
 |seq x y=>
  intro s e a' s' hr E g w ca Q ρ' hρ hR hA hF ha hQ;obtain⟨⟨x1,a1⟩,s1,h1,h2⟩:=ax hr;have hle:St.Le I s1 s':=M.le _ _ _ _ h2;refine wpIn_seq (hc ρ x a s x1 a1 s1 h1 E g w ca _ ρ' hρ hR (hA.first hle) (hF.first hle.next) ha fun E1 ce ni w1 hx1 rN ha1 pq=>?_);obtain⟨gY,lU,lD,nh⟩:=chain h1 hle hA hF hx1;cases x1 with
  |normal=>
   cases ce<;>simp only [yI] at rN<;>first|exact rN.elim|skip
   exact hc ρ y a1 s1 e a' s' h2 E1 _ w1 ni Q ρ' (hρ.mono hx1.keep) pq gY lU ha1 fun E' ce lT w' Mg CC ha' tu=>hQ E' ce lT w' (lD E' Mg) CC ha' (by rw [nh] at tu;exact tu)
  |exit id=>
   exact vw
  |ret=>
   exact zR
  |panic v=>
   exact vw
 |cond c x y=>
  intro s e a' s' hr E g w ca Q ρ' hρ hR hA hF ha hQ;change (LD lo self ρ c x y a).run s=_ at hr;unfold LD at hr;split at hr
  ·rename_i b hb;have hv:=ha.ev (lo:=lo) hR.old _ _ hb;generalize hq:ca.eval c=q at hv;cases hv;refine wpIn_cond hq ?_;cases b with
   |true=>exact hc ρ x a s e a' s' hr E g w ca Q ρ' hρ hR hA hF ha hQ
   |false=>exact hc ρ y a s e a' s' hr E g w ca Q ρ' hρ hR hA hF ha hQ
  ·exact(au hr).elim
 |block id b=>
  intro s e a' s' hr E g w ca Q ρ' hρ hR hA hF ha hQ;obtain⟨⟨x1,a1⟩,s1,h1,h2⟩:=ax hr;have hle:St.Le I s1 s':=M.le _ _ _ _ h2;refine wpIn_block (hc ρ b a s x1 a1 s1 h1 E g w ca _ ρ' hρ hR (hA.first hle) (hF.first hle.next) ha fun E1 ce ni w1 hx1 rN ha1 pq=>?_);cases x1 with
  |normal=>
   exact zR
  |exit j=>
   cases ce<;>simp only [yI] at rN<;>first|exact rN.elim|skip
   subst rN;change (bif Nat.beq j id then(pure (.normal,a1):M I (bX × aD)) else pure (.exit j,a1)).run s1=_ at h2;cases hb:Nat.beq j id with
   |true=>
    rw [hb] at h2;obtain⟨h3,rfl⟩:=pure_run h2;cases h3;have:=Nat.eq_of_beq_eq_true hb;subst this;show(if j=j then Q .normal ni w1 else Q (.exit j) ni w1);rw [if_pos rfl];exact hQ E1 .normal ni w1 hx1 trivial ha1 pq
   |false=>
    rw [hb] at h2;obtain⟨h3,rfl⟩:=pure_run h2;cases h3;have hne:j≠id:=fun e=>by subst e;simp at hb
    show(if j=id then Q .normal ni w1 else Q (.exit j) ni w1);rw [if_neg hne];exact hQ E1 (.exit j) ni w1 hx1 rfl ha1 pq
  |ret=>
   exact zR
  |panic v=>
   exact vw
 |loop b=>
  intro s e a' s' hr E g w ca Q ρ' hρ hR hA hF ha hQ;exact wpIn_loop_rounds 1000000 (Gf hc ρ b 1000000 a s e a' s' hr E g w ca Q ρ' hρ hR hA hF ha hQ)
 |scope b=>
  intro s e a' s' hr E g w ca Q ρ' hρ hR hA hF ha hQ;refine nK (hc ρ b a s e a' s' hr E g w ca _ ρ' hρ hR hA hF ha fun E' ce lT w' Mg CC ha' tu=>?_);have:=hQ E' ce lT w' Mg CC ha' tu;cases ce with
  |goto l=>cases e<;>exact CC.elim
  |normal=>exact this
  |exit i=>exact this
  |ret=>exact this
  |panic c=>exact this
  |outgrown=>exact this
 |region id ops draw=>
  cases draw with
  |false=>
   intro s e a' s' hr E g w ca Q ρ' hρ hR hA hF ha hQ;exact wpIn_region_list (iJ H hc hk ops.toList a s e a' s' hr E g w ca Q ρ' hρ hR hA hF ha hQ)
  |true=>
   intro s e a' s' hr E g w ca Q ρ' hρ hR hA hF ha hQ;exact wpIn_region_any hm (Ql (H:=H) hc hk a s e a' s' hr E g w.drew ca Q ρ' hρ (uU hR) hA hF ha hQ)
 |rangeFunc g ps as b=>exact Qt H hk g ps as b a
 |goto l=>exact fun s e a' s' hr=>(au hr).elim
 |refuse why=>exact fun s e a' s' hr=>(au hr).elim
def J2 (P:Program) (lo:eK) (w0:Bs) (K:Gp I):Prop:=∀h,K=some h→∀f args m,h f args=some m→∀s r s',m.run s=some (r,s')→∀E g w cj,Rel P lo w0 E g w→dx I s s' g→fN s s' E→fU E args cj→
 Calls P f cj w fun e w'=>∃E',Env.Ext E E' s.next s'.next∧Rh E' r e∧Rel P lo w0 E' (merge I s' g) w'
end Go.Am
/- A part of the proof. Conditions: none. -/
set_option maxRecDepth 100000
set_option maxHeartbeats 8000000
namespace Go.Am
open Go Go.RowKit
noncomputable section
variable {μ:Type} {I:ir μ} {P:Program} {lo:eK} {w0:Bs} {E:Env}
inductive ow where
 |ret
 |panic (v:Value) (aiV:Bool)
def ow.settle:ow→ow
 | .panic _ true=>.ret
 |m=>m
def Gn (E:Env):ow→FrameMode→Prop
 | .ret,.returning=>True
 | .panic v c,.panicking ch=>∃v',ch=[{v:=v',recovered:=c}]∧VR E v v'
 |_,_=>False
theorem Gn.mono {E E':Env} (hE:∀k x,E k=some x→E' k=some x) {u:ow} {m:FrameMode} (h:Gn E u m):Gn E' u m:=by
 cases u<;>cases m<;>first|exact h.elim|trivial|skip
 obtain⟨v',h1,h2⟩:=h;exact⟨v',h1,h2.mono hE⟩
theorem Gn.settle {u:ow} {m:FrameMode} (h:Gn E u m):Gn E u.settle (Go.settle m):=by
 cases u<;>cases m<;>first|exact h.elim|trivial|skip
 rename_i v c ch;obtain⟨v',rfl,h2⟩:=h;cases c with
 |true=>exact trivial
 |false=>exact⟨v',rfl,h2⟩
def isRec (o:Oper):Bool:=match o.op with
 | .call c=>match c.callee with
  | .builtin .recover=>true
  |_=>false
 |_=>false
abbrev nE:=(bX × aD) × ow
def thenS (k:aD→ow→M I nE) (u:ow) (r:bX × aD):M I nE:=match r with
 |(.normal,a1)=>k a1 u
 |r=>pure (r,u)
def aiW (o:Oper) (k:aD→ow→M I nE) (a:aD) (u:ow):M I nE:=match u with
 | .panic v false=>iP a o.dst v>>=fun a1=>k a1 (.panic v true)
 |u=>iP a o.dst .nilIface>>=fun a1=>k a1 u
def Re (a:aD) (o:Oper) (k:aD→ow→M I nE) (u:ow) (e:fS):M I nE:=match e with
 | .ret v=>iP a o.dst v>>=fun a1=>k a1 u
 | .panic v=>pure ((.panic v,a),u)
def aaz (self:Self I) (a:aD) (o:Oper) (k:aD→ow→M I nE) (u:ow) (r:bT):M I nE:=match r with
 | .val v=>iP a o.dst v>>=fun a1=>k a1 u
 | .call f args=>self.call f args>>=Re a o k u
 |_=>fail
def C4 (P:Program) (X:Hk) (lo:eK) (self:Self I) (ops:Array Oper):List Oper→aD→ow→M I nE
 |[],a,u=>pure ((.normal,a),u)
 |o::rest,a,u=>bif gT ops a o then(bif isRec o then aiW o (C4 P X lo self ops rest) a u else gH P X lo (yG lo a) o>>=aaz self a o (C4 P X lo self ops rest) u) else iP a o.dst undef>>=fun a1=>C4 P X lo self ops rest a1 u
def XB (u:ow) (r:bX × aD):M I nE:=pure (r,u)
def afy (k:aD→ow→M I nE) (r:nE):M I nE:=match r with
 |((.normal,a1),u1)=>k a1 u1
 |r=>pure r
def AQ (P:Program) (X:Hk) (lo:eK) (self:Self I):Code→aD→ow→M I nE
 | .seq x y,a,u=>AQ P X lo self x a u>>=afy (AQ P X lo self y)
 | .region _ ops false,a,u=>C4 P X lo self ops ops.toList a u
 |c,a,u=>self.code none c a>>=XB u
def XC (r:nE):M I ow:=match r with
 |((.normal,⟨_,_,[]⟩),u)=>pure u
 |((.ret,⟨_,_,[]⟩),u)=>pure u
 |_=>fail
def yH (args:Array Value) (fn:Func):aD:=⟨args.size+(fn.ntmps - args.size),ue args.toList 0 .leaf,[]⟩
def C5 (P:Program) (X:Hk) (lo:eK) (self:Self I) (f:FuncId) (args:Array Value) (u:ow):M I ow:=match P.funcs[f]? with
 |some fn=>match fn.body with
  |some c=>bif Nat.blt args.size 4000 && fn.results.isEmpty then AQ P X lo self c (yH args fn) u>>=XC else fail
  |none=>fail
 |none=>fail
def afz (P:Program) (fn:Func) (a:aD) (u:ow):M I fS:=match u with
 | .ret=>aaA P fn a>>=fun v=>pure (.ret v)
 | .panic v false=>pure (.panic v)
 |_=>fail
def XD (lo:eK) (k:Nat):M I Unit:=rd k>>=fun o=>match o with
 | .deferred (some [])=>wr lo k (some (.deferred none))
 |_=>fail
def gU (P:Program) (X:Hk) (lo:eK) (self:Self I) (fn:Func) (a:aD):List Deferred→ow→M I fS
 |[],u=>afz P fn a u
 |d::ds,u=>match d.target with
  | .fn (.func f) cap=>bif X.X f then C5 P X lo self f (d.args++cap) u>>=fun u1=>gU P X lo self fn a ds u1.settle else fail
  | .collected k=>XD lo k>>=fun _=>gU P X lo self fn a ds u
  |_=>fail
def afA (P:Program) (X:Hk) (lo:eK) (self:Self I) (fn:Func) (r:bX × aD):M I fS:=match r.1 with
 | .normal=>gU P X lo self fn r.2 r.2.defers .ret
 | .ret=>gU P X lo self fn r.2 r.2.defers .ret
 | .panic v=>gU P X lo self fn r.2 r.2.defers (.panic v false)
 |_=>fail
def JU (P:Program) (X:Hk) (lo:eK) (self:Self I) (args:Array Value) (fn:Func):M I fS:=match fn.body with
 |some c=>bif Nat.blt args.size 4000 then self.code none c (yH args fn)>>=afA P X lo self fn else fail
 |none=>fail
def ng (P:Program) (X:Hk) (lo:eK) (self:Self I) (f:FuncId) (args:Array Value):M I fS:=match X.L f args.toList with
 |some v=>pure (.ret v)
 |none=>match P.funcs[f]? with
  |some fn=>JU P X lo self args fn
  |none=>fail
def qG (P:Program) (X:Hk) (lo:eK) (K:Gp I) (self:Self I) (f:FuncId) (args:Array Value):M I fS:=match K with
 |none=>ng P X lo self f args
 |some h=>match h f args with
  |some m=>m
  |none=>ng P X lo self f args
def uf (P:Program) (X:Hk) (lo:eK) (K:Gp I):Nat→Self I
 |0=>⟨fun _ _ _=>fail,fun _ _=>fail⟩
 |n+1=>⟨AR P X lo (uf P X lo K n),qG P X lo K (uf P X lo K n)⟩
def JV (P:Program) (X:Hk) (n:Nat) (f:FuncId) (args:Array Value) (p:Value→Bool):Bool:=match ((uf (I:=Fh) P X ⟨0,0⟩ none n).call f args).run (st0 0) with
 |some (.ret v,_)=>p v
 |_=>false
theorem xe {args cj:Array Value} {fn:Func} (hsz:args.size<4000) (cG:fU E args cj):kB E (yH args fn) {tmps:=cj++Array.replicate (fn.ntmps - cj.size) undef,defers:=[]}:=by
 unfold yH;refine⟨by simp [cG.1],fun i=>?_,rfl,fun j d d' h=>by simp at h⟩;unfold aD.val;simp only;rw [qH args.toList 0 .leaf i cr];simp only [Nat.zero_le,true_and,Nat.zero_add,Nat.sub_zero,Array.length_toList];by_cases hi:i<args.size
 ·rw [if_pos hi];have hi':i<cj.size:=by rw [←cG.1];exact hi
  have:=cG.2 args[i] cj[i] i (by simp [hi]) (by simp [hi']);simpa [hi,hi',Array.getElem?_append] using this
 ·rw [if_neg hi];have hi':¬i<cj.size:=by rw [←cG.1];exact hi
  have:(cj++Array.replicate (fn.ntmps - cj.size) undef).getD i undef=undef:=by
   simp [Array.getElem?_append,hi',Array.getElem?_replicate];split<;>rfl
  rw [this];exact VR.undef E
def C6 (P:Program) (lo:eK) (w0:Bs) (m:M I nE) (a:aD) (u:ow) (C:(Exit→Act→List Frame→World→Prop)→Act→List Frame→World→Prop):Prop:=
 ∀s e a' u' s',m.run s=some (((e,a'),u'),s')→∀E g w ca (c0:Frame) (cs:List Frame) (um:FrameMode) Q,Rel P lo w0 E g w→dx I s s' g→fN s s' E→kB E a ca→Gn E u um→
  (∀E' ce lT (Ja:FrameMode) w',Env.Ext E E' s.next s'.next→yI E' e ce→kB E' a' lT→Gn E' u' Ja→Rel P lo w0 E' (merge I s' g) w'→Q ce lT ({c0 with mode:=Ja}::cs) w')→
  C Q ca ({c0 with mode:=um}::cs) w
theorem Rf {o:Oper} (h:isRec o=true) (ρ:Operand→Value) (w:World):(execOp ρ o).run P w=.ok .recover w:=by
 unfold isRec at h;split at h
 ·rename_i c hc;split at h
  ·rename_i hb;obtain⟨callee,args,ts⟩:=c;simp only at hb;subst hb;unfold execOp;rw [hc];simp [resolve,invoke,builtin]
  ·cases h
 ·cases h
theorem pI {X:Hk} (hX:Plain P X w0.w) {self:Self I} (hc:gj P lo w0 self.call) {ops:Array Oper}:∀(is:List Nat) (l:List Oper),is.map (fun i=>ops[i]?)=l.map some→∀(a:aD) (u:ow),C6 P lo w0 (C4 P X lo self ops l a u) a u (fun Q ca cs w=>wpOpsS P ops Q is ca cs w)
 |[],[],_,a,u=>by
  intro s e a' u' s' hr E g w ca c0 cs um Q hR hA hF ha hu hQ;obtain⟨h1,rfl⟩:=pure_run hr;cases h1;exact hQ E .normal ca um w (.refl _ _) trivial ha hu xg
 |[],_::_,h,a,u=>by simp at h
 |_::_,[],h,a,u=>by simp at h
 |i::is,o::rest,h,a,u=>by
  intro s e a' u' s' hr E g w ca c0 cs um Q hR hA hF ha hu hQ;simp only [List.map_cons,List.cons.injEq] at h;obtain⟨ho,h⟩:=h;have hw:=ug (ops:=ops) ha o;unfold C4 at hr;cases QD:gT ops a o with
  |false=>
   rw [QD] at hw;simp only [QD,cond_false] at hr;obtain⟨a1,s1,h1,h2⟩:=ax hr;obtain⟨rfl,ha1⟩:=ha.put (VR.undef E) h1;unfold wpOpsS;simp only [ho,hw,Bool.false_eq_true,if_false];exact pI hX hc is rest h a1 u _ e a' u' s' h2 E g w _ c0 cs um Q hR hA hF ha1 hu hQ
  |true=>
  rw [QD] at hw;simp only [QD,cond_true] at hr;cases hwr:isRec o with
  |true=>
   simp only [hwr,cond_true] at hr;have aiX:=Rf (P:=P) hwr ca.eval w;unfold wpOpsS;simp only [ho,hw,if_true,aiX];have go:∀(v v':Value) (u1:ow) (XE:FrameMode),VR E v v'→Gn E u1 XE→(iP a o.dst v>>=fun a1=>C4 P X lo self ops rest a1 u1).run s=some (((e,a'),u'),s')→wpOpsS P ops Q is (ca.put o.dst v') ({c0 with mode:=XE}::cs) w:=fun v v' u1 XE hv XF hr=>by
    obtain⟨a1,s1,h1,h2⟩:=ax hr;obtain⟨rfl,ha1⟩:=ha.put hv h1;exact pI hX hc is rest h a1 u1 _ e a' u' s' h2 E g w _ c0 cs XE Q hR hA hF ha1 XF hQ
   have hnil:VR E .nilIface .nilIface:=cF E 3 .nilIface rfl;cases u with
   |ret=>
    cases um<;>first|exact(show False from hu).elim|skip
    exact go .nilIface .nilIface .ret .returning hnil trivial hr
   |panic v c=>
    cases um<;>first|exact(show False from hu).elim|skip
    obtain⟨v',rfl,hv⟩:=hu;cases c with
    |false=>exact go v v' (.panic v true) (.panicking [{v:=v',recovered:=true}]) hv ⟨v',rfl,hv⟩ hr
    |true=>exact go .nilIface .nilIface (.panic v true) (.panicking [{v:=v',recovered:=true}]) hnil ⟨v',rfl,hv⟩ hr
  |false=>
   simp only [hwr,cond_false] at hr;obtain⟨r,s1,h1,h2⟩:=ax hr;have iQ:St.Le I s1 s':=M.le _ _ _ _ h2;have hev:=ha.ev (lo:=lo) hR.old;obtain⟨E1,nx,w1,hrun,hx1,qB,pq⟩:=oy (lo:=lo) (w0:=w0) (E:=E) hX hev o s r s1 h1 E g w (fun _ _ h=>h) hR (hA.first iQ) (hF.first iQ.next) trivial;obtain⟨gY,lU,lD,nh⟩:=chain h1 iQ hA hF hx1;have ha1:=ha.mono hx1.keep;unfold wpOpsS;simp only [ho,hw,if_true,hrun];cases r with
   |val v=>
    obtain⟨a1,s2,h3,h4⟩:=ax h2;have key:∀v',VR E1 v v'→wpOpsS P ops Q is (ca.put o.dst v') ({c0 with mode:=um}::cs) w1:=fun v' hv'=>by
     obtain⟨rfl,ha2⟩:=ha1.put hv' h3;exact pI hX hc is rest h a1 u _ e a' u' s' h4 E1 _ w1 _ c0 cs um Q pq gY lU ha2 (hu.mono hx1.keep) fun E' ce lT Ja w' q1 q2 q3 q4 q5=>hQ E' ce lT Ja w' (lD E' q1) q2 q3 q4 (by rw [nh] at q5;exact q5)
    exact JW
   |call f args=>
    cases nx<;>simp only [NR] at qB<;>first|exact qB.elim|skip
    rename_i f' cs';obtain⟨rfl,cG⟩:=qB;obtain⟨en,s2,h3,h4⟩:=ax h2;have jK:St.Le I s2 s':=M.le _ _ _ _ h4;refine(hc f args s1 en s2 h3 E1 _ w1 cs' pq (gY.first jK) (lU.first jK.next) cG).mono fun e2 w2 ⟨E2,hx2,hen,qI⟩=>?_
    obtain⟨Av,hF2,qC,yJ⟩:=chain h3 jK gY lU hx2;have ha2:=ha1.mono hx2.keep;cases en with
    |ret v=>
     cases e2 with
     |panicked c=>exact hen.elim
     |outgrown=>exact hen.elim
     |returned v'=>
     obtain⟨a1,s3,h5,h6⟩:=ax h4;obtain⟨rfl,ha3⟩:=ha2.put hen h5;exact pI hX hc is rest h a1 u _ e a' u' s' h6 E2 _ w2 _ c0 cs um Q qI Av hF2 ha3 ((hu.mono hx1.keep).mono hx2.keep) fun E' ce lT Ja w' q1 q2 q3 q4 q5=>hQ E' ce lT Ja w' (lD E' (qC E' q1)) q2 q3 q4 (by rw [yJ,nh] at q5;exact q5)
    |panic v=>
     obtain⟨h5,rfl⟩:=pure_run h4;cases h5;cases e2 with
     |panicked c=>exact hQ E2 (.panic c) ca um w2 (lD E2 hx2) hen ha2 ((hu.mono hx1.keep).mono hx2.keep) (by rw [nh] at qI;exact qI)
     |returned v'=>exact hen.elim
     |outgrown=>exact hen.elim
   |_=>exact(au h2).elim
theorem JX {X:Hk} (hX:Plain P X w0.w) {self:Self I} (ki:gm P lo w0 self.code) (hc:gj P lo w0 self.call):∀(c:Code) (a:aD) (u:ow),C6 P lo w0 (AQ P X lo self c a u) a u (fun Q ca cs w=>c.wpS P Q ca cs w):=by
 have plain:∀(c:Code) (a:aD) (u:ow),C6 P lo w0 (self.code none c a>>=XB u) a u (fun Q ca cs w=>c.wpS P Q ca cs w):=fun c a u=>by
  intro s e a' u' s' hr E g w ca c0 cs um Q hR hA hF ha hu hQ;obtain⟨⟨e1,a1⟩,s1,h1,h2⟩:=ax hr;obtain⟨q1,rfl⟩:=pure_run h2;cases q1;exact wpS_of_wp (wpIn_wide.1 (ki none c a s _ _ _ h1 E g w ca _ none trivial hR hA hF ha fun E' ce lT w' k1 k2 k3 k4=>hQ E' ce lT um w' k1 k2 k3 (hu.mono k1.keep) k4))
 intro c
 induction c with
 |seq x y ihx ihy=>
  intro a u s e a' u' s' hr E g w ca c0 cs um Q hR hA hF ha hu hQ;obtain⟨⟨⟨e1,a1⟩,u1⟩,s1,h1,h2⟩:=ax (m:=AQ P X lo self x a u) hr;have hle:St.Le I s1 s':=M.le _ _ _ _ h2;refine wpS_seq (ihx a u s e1 a1 u1 s1 h1 E g w ca c0 cs um _ hR (hA.first hle) (hF.first hle.next) ha hu fun E1 ce ni XE w1 k1 k2 k3 k4 k5=>?_);obtain⟨gY,lU,lD,nh⟩:=chain h1 hle hA hF k1;cases e1 with
  |normal=>
   cases ce<;>first|exact k2.elim|skip
   exact ihy a1 u1 s1 e a' u' s' h2 E1 _ w1 ni c0 cs XE Q k5 gY lU k3 k4 fun E' ce lT Ja w' q1 q2 q3 q4 q5=>hQ E' ce lT Ja w' (lD E' q1) q2 q3 q4 (by rw [nh] at q5;exact q5)
  |exit id=>
   exact C7
  |ret=>
   exact C7
  |panic v=>
   exact C7
 |region id ops draw=>
  cases draw with
  |true=>exact fun a u=>plain _ a u
  |false=>
   intro a u s e a' u' s' hr E g w ca c0 cs um Q hR hA hF ha hu hQ;refine wpS_region (pI hX hc (List.range ops.size) ops.toList ?_ a u s e a' u' s' hr E g w ca c0 cs um Q hR hA hF ha hu hQ);apply List.ext_getElem ak;intro i h1 h2;simp at h1 h2;simp [h1]
 |skip=>exact fun a u=>plain _ a u
 |cond c x y _ _=>exact fun a u=>plain _ a u
 |block id b _=>exact fun a u=>plain _ a u
 |loop b _=>exact fun a u=>plain _ a u
 |rangeFunc f ps x y _ _=>exact fun a u=>plain _ a u
 |exit id=>exact fun a u=>plain _ a u
 |scope b _=>exact fun a u=>plain _ a u
 |label l=>exact fun a u=>plain _ a u
 |goto l=>exact fun a u=>plain _ a u
 |ret=>exact fun a u=>plain _ a u
 |refuse why=>exact fun a u=>plain _ a u
theorem Gq {fn:Func} (h:fn.results.isEmpty=true) (tmps:Array Value) (w:World):(results fn tmps).run P w=.ok (.tuple #[]) w:=by
 have:fn.results=#[]:=kO;unfold results;rw [this];simp
theorem wB {F:Fence} {n:Nat} {f:FuncId} {args:Array Value} {u:FrameMode} {w:World} {R R':Ending→FrameMode→World→Prop} (h:CallsDIn F n P f args u w R) (hr:∀e u w,R e u w→R' e u w):CallsDIn F n P f args u w R':=
 ⟨h.1,fun c cs hc hroom=>let ⟨e,u',w',fr,r,s,x⟩:=h.2 c cs hc hroom;⟨e,u',w',fr,hr _ _ _ r,s,x⟩⟩
theorem uh {f:FuncId} {fn:Func} {c:Code} {args:Array Value} {u:FrameMode} {w:World} {R:Ending→FrameMode→World→Prop}
  (hf:P.funcs[f]?=some fn) (hb:fn.body=some c)
  (h:∀(c₀:Frame) (cs:List Frame),c₀.mode=u→
   c.wpS P (bodyPostS P fn c₀ cs R) {tmps:=args++Array.replicate (fn.ntmps - args.size) undef,defers:=[]} (c₀::cs) w):
  CallsDIn (qJ none) (0 - 1) P f args u w R:=by
 refine⟨trivial,fun c₀ cs hu _=>?_⟩
 let b:Frame:={(default:Frame) with fn:=f,kind:=.deferred}
 have aaB:Frame.enter P f args .deferred=
   b.at {tmps:=args++Array.replicate (fn.ntmps - args.size) undef,defers:=[]} [.code c]:=by
  simp [Frame.enter,Frame.at,hf,hb,b]
 obtain⟨e,a',cs',w',hq,sP⟩:=h c₀ cs hu b [] rfl rfl;rw [←aaB] at sP;cases e with
 |normal=>
  obtain⟨hd,u',rfl,v,hr,hR⟩:=hq;exact⟨.returned v,u',w',_,hR,comesIn_wide.2 (show Comes P _ _ (.returned v) from Steps.trans sP (.one step_end)),rfl,rfl,rfl,hd,fn,hf,hr⟩
 |ret=>
  obtain⟨hd,u',rfl,v,hr,hR⟩:=hq;obtain⟨todo,hs⟩:=sP;exact⟨.returned v,u',w',_,hR,comesIn_wide.2 (show Comes P _ _ (.returned v) from hs),rfl,rfl,rfl,hd,fn,hf,hr⟩
 |panic chain=>
  obtain⟨hd,u',rfl,hR⟩:=hq;obtain⟨todo,hs⟩:=sP;exact⟨.panicked chain,u',w',_,hR,comesIn_wide.2 (show Comes P _ _ (.panicked chain) from hs),rfl,rfl,rfl,hd,fn,hf⟩
 |exit id=>exact hq.elim
 |goto l=>exact hq.elim
 |outgrown=>
  obtain⟨u',hR⟩:=hq;exact⟨.outgrown,u',w',b,hR,comesIn_wide.2 (show Comes P _ _ .outgrown from sP.resolve_left (by simp [b])),rfl,rfl,trivial⟩
theorem Gr {X:Hk} (hX:Plain P X w0.w) {self:Self I} (ki:gm P lo w0 self.code) (hc:gj P lo w0 self.call) {f:FuncId} {args:Array Value} {u u':ow} {s s':St μ} (hr:(C5 P X lo self f args u).run s=some (u',s'))
  {E:Env} {g:Nat→Option Obj} {w:World} {cj:Array Value} {um:FrameMode} (hR:Rel P lo w0 E g w) (hA:dx I s s' g) (hF:fN s s' E) (cG:fU E args cj) (hu:Gn E u um):
  CallsDIn (qJ none) (0 - 1) P f cj um w fun e Ja w'=>∃E' v,e=.returned v∧Env.Ext E E' s.next s'.next∧Gn E' u' Ja∧Rel P lo w0 E' (merge I s' g) w':=by
 unfold C5 at hr;split at hr
 ·rename_i fn hf;split at hr
  ·rename_i c hb;cases hsz:(Nat.blt args.size 4000 && fn.results.isEmpty) with
   |false=>rw [hsz] at hr;exact(au hr).elim
   |true=>
    rw [hsz,cond_true] at hr;simp only [Bool.and_eq_true,blt_eq,decide_eq_true_eq] at hsz;obtain⟨⟨⟨e1,a1⟩,u1⟩,s1,h1,h2⟩:=ax hr;have hle:St.Le I s1 s':=M.le _ _ _ _ h2;have hend:(e1=.normal∨e1=.ret)∧a1.defers=[]∧u1=u'∧s1=s':=by
     unfold XC at h2;split at h2
     ·rename_i hh;obtain⟨q1,q2⟩:=pure_run h2;cases hh;exact⟨.inl rfl,rfl,q1.symm,q2.symm⟩
     ·rename_i hh;obtain⟨q1,q2⟩:=pure_run h2;cases hh;exact⟨.inr rfl,rfl,q1.symm,q2.symm⟩
     ·exact(au h2).elim
    obtain⟨rN,QE,rfl,rfl⟩:=hend;refine uh hf hb fun c0 cs hc0=>?_
    have aiY:c0={c0 with mode:=um}:=by rw [←hc0]
    rw [aiY];refine JX hX ki hc c _ u s e1 a1 u1 s1 h1 E g w _ c0 cs um _ hR hA hF (xe hsz.1 cG) hu fun E' ce lT Ja w' k1 k2 k3 k4 k5=>?_
    have hdd:lT.defers=[]:=by
     have:=k3.len;rw [QE] at this;exact List.eq_nil_of_length_eq_zero (by simpa using this.symm)
    rcases rN with rfl|rfl
    ·exact JY
    ·exact JY
  ·exact(au hr).elim
 ·exact(au hr).elim
theorem qK {X:Hk} (hX:Plain P X w0.w) {self:Self I} (ki:gm P lo w0 self.code) (hc:gj P lo w0 self.call) {fn:Func} {a:aD}:∀(ds:List Deferred) (u:ow) (s:St μ) (r:fS) (s':St μ),(gU P X lo self fn a ds u).run s=some (r,s')→
  ∀(E:Env) (g:Nat→Option Obj) (w:World) (tmps:Array Value) (XG:List Deferred) (um:FrameMode) (R:Ending→World→Prop),Rel P lo w0 E g w→dx I s s' g→fN s s' E→(∀i,VR E (a.val i) (tmps.getD i undef))→Gn E u um→
   ds.length=XG.length→(∀(j:Nat) (d d':Deferred),ds[j]?=some d→XG[j]?=some d'→DR E d d')→
   (∀E' e w',Env.Ext E E' s.next s'.next→Rh E' r e→Rel P lo w0 E' (merge I s' g) w'→R e w')→LeavesInM (qJ none) 0 P fn tmps R XG um w
 |[],u,s,r,s',hr,E,g,w,tmps,XG,um,R,hR,hA,hF,hv,hu,hlen,_,hQ=>by
  obtain rfl:XG=[]:=List.eq_nil_of_length_eq_zero (by simpa using hlen.symm);unfold gU afz at hr;split at hr
  ·cases um<;>first|exact(show False from hu).elim|skip
   obtain⟨v,s2,h4,h5⟩:=ax hr;obtain⟨rfl,rfl⟩:=pure_run h5;obtain⟨E2,v',w2,k1,k2,k3,k4⟩:=JZ (P:=P) (lo:=lo) (w0:=w0) (E:=E) (fn:=fn) (ca:={tmps:=tmps,defers:=[]}) hv s v s' h4 E _ w (fun _ _ h=>h) hR hA hF trivial;have:=AU (P:=P) fn tmps w v' w2 k1;subst this;exact⟨v',k1,hQ E2 _ _ k2 k3 k4⟩
  ·cases um<;>first|exact(show False from hu).elim|skip
   obtain⟨v',rfl,hv'⟩:=hu;obtain⟨rfl,rfl⟩:=pure_run hr;exact hQ E _ w (.refl _ _) ⟨v',rfl,hv'⟩ xg
  ·exact(au hr).elim
 |d::ds,u,s,r,s',hr,E,g,w,tmps,[],um,R,hR,hA,hF,hv,hu,hlen,QF,hQ=>by simp at hlen
 |d::ds,u,s,r,s',hr,E,g,w,tmps,d'::XG,um,R,hR,hA,hF,hv,hu,hlen,QF,hQ=>by
  rcases QF 0 d d' rfl rfl with⟨f,cap,cap',ht,XH,aX,cG⟩|⟨k,b,q,ht,XH,hkb⟩
  ·unfold gU at hr;rw [ht] at hr;simp only at hr;cases hx:X.X f with
   |false=>rw [hx] at hr;exact(au hr).elim
   |true=>
    rw [hx,cond_true] at hr;obtain⟨u1,s1,h1,h2⟩:=ax hr;have hle:St.Le I s1 s':=M.le _ _ _ _ h2;obtain⟨fn',g1,g2,g3⟩:=hX.x f hx;have g3':fn'.body≠none:=fun e=>by rw [e] at g3;cases g3
    have g2' : ¬ fn'.name = "runtime.NumGoroutine" := by simpa using g2
    have hne:um≠ .run:=fun e=>by subst e;cases u<;>exact(show False from hu).elim
    refine⟨hne,.inr ⟨iF,.func f,cap',f,d'.args++cap',XH, ?_,fun _ _=>trivial, ?_⟩⟩
    ·rw [XH];simp [invoke,callFunc,g1,g2',g3']
    ·refine wB (Gr hX ki hc h1 hR (hA.first hle) (hF.first hle.next) (fU.append cG aX) hu) fun e XE w1 ⟨E1,v,he,k1,k2,k3⟩=>?_
     subst he;obtain⟨gY,lU,lD,nh⟩:=chain h1 hle hA hF k1;exact qK hX ki hc ds u1.settle s1 r s' h2 E1 _ w1 tmps XG _ R k3 gY lU (fun i=>(hv i).mono k1.keep) k2.settle (by simpa using hlen) (fun j x y hx hy=>(QF (j+1) x y (by simpa using hx) (by simpa using hy)).mono k1.keep)
      fun E' e w' q1 q2 q3=>hQ E' e w' (lD E' q1) q2 (by rw [nh] at q3;exact q3)
  ·unfold gU at hr;rw [ht] at hr;simp only at hr;obtain⟨u1,s1,h1,h2⟩:=ax hr;have hle:St.Le I s1 s':=M.le _ _ _ _ h2;have hne:um≠ .run:=fun e=>by subst e;cases u<;>exact(show False from hu).elim
   unfold XD at h1;obtain⟨ob,s2,h3,h4⟩:=ax h1;have hob:ob=.deferred (some []):=by
    cases ob<;>first|exact(au h4).elim|skip
    rename_i x;cases x with
    |none=>exact(au h4).elim
    |some l=>cases l with
     |nil=>rfl
     |cons y l=>exact(au h4).elim
   subst hob;simp only at h4;obtain⟨e1,e2,e3,e4,e5⟩:=jA h3;obtain⟨w1',⟨o0,w2'⟩,w3',w4',w5',w6'⟩:=qL h4;have l1:=(rd (I:=I) k).le _ _ _ h3;have l2:=(wr (I:=I) lo k (some (.deferred none))).le _ _ _ h4;have hm:merge I s2 g=g:=dA ((hA.first hle).first l2) (fun k=>by rw [e4]) (fun k=>by rw [e3]);have gY:dx I s2 s1 g:=by have:=(hA.first hle).second l1 l2;rwa [hm] at this
   have hg:g k=some (.deferred (some [])):=by rw [(hA.first hle) k (by rw [l2.T k e5,Bool.true_or]),e1]
   obtain⟨b',r',co,q1,q2,q3⟩:=hR.tie _ _ hg;rw [hkb] at q1;cases q1;cases q3 with
   |collected=>
    have pq:Rel P lo w0 E (merge I s1 g) (w.putObj b (.deferred none)):=by
     rw [eO gY w5' w6'];exact hR.write hg hkb w1' (nP q2) .shut
    have x1:Env.Ext E E s.next s1.next:=⟨fun _ _ h=>h,fun _ h=>.inl h⟩;obtain⟨Av,hF2,qC,yJ⟩:=chain h1 hle hA hF x1;exact⟨hne,.inl ⟨b,_,XH,run_takeDeferred q2,qK hX ki hc ds u s1 r s' h2 E _ _ tmps XG um R pq Av hF2 hv hu (by simpa using hlen) (fun j x y hx hy=>QF (j+1) x y (by simpa using hx) (by simpa using hy))
     fun E' e w' q1 q2 q3=>hQ E' e w' (qC E' q1) q2 (by rw [yJ] at q3;exact q3)⟩⟩
theorem J0 {X:Hk} (H:Plain P X w0.w) {self:Self I} (ki:gm P lo w0 self.code) (hc:gj P lo w0 self.call):gj P lo w0 (ng P X lo self):=by
 intro f args s r s' hr E g w cj hR hA hF cG;unfold ng at hr;split at hr
 ·rename_i v hl;obtain⟨rfl,rfl⟩:=pure_run hr;obtain⟨l1,l2,l3⟩:=H.l f _ v hl;have he:=cG.fD l1;have:=l3 w hR.below;rw [show args.toList.toArray=args by simp,←he] at this;refine this.mono fun e w' ⟨h1,h2⟩=>⟨E,.refl _ _, ?_, ?_⟩
  ·subst h1;exact cF E 3 v l2
  ·rw [dA hA (fun _=>rfl) (fun _=>rfl)];exact hR.aaD h2
 ·split at hr
  ·rename_i fn hf;unfold JU at hr;split at hr
   ·rename_i c hb;cases hsz:Nat.blt args.size 4000 with
    |false=>simp only [hsz] at hr;exact(au hr).elim
    |true=>
     simp only [hsz,cond_true] at hr;rw [blt_eq,decide_eq_true_eq] at hsz;obtain⟨⟨x,a1⟩,s1,h1,h2⟩:=ax hr;have hle:St.Le I s1 s':=M.le _ _ _ _ h2;refine Gs (callsIn_of_wp_marks hf hb trivial ?_);refine ki none c _ s x a1 s1 h1 E g w _ _ none trivial hR (hA.first hle) (hF.first hle.next) (xe hsz cG) fun E1 ce ni w1 hx1 rN ha1 pq=>?_
     obtain⟨gY,lU,lD,nh⟩:=chain h1 hle hA hF hx1;have leave:∀u um,Gn E1 u um→(gU P X lo self fn a1 a1.defers u).run s1=some (r,s')→LeavesInM (qJ none) 0 P fn ni.tmps (fun e w'=>∃E',Env.Ext E E' s.next s'.next∧Rh E' r e∧Rel P lo w0 E' (merge I s' g) w') ni.defers um w1:=fun u um hu h3=>
      qK H ki hc a1.defers u s1 r s' h3 E1 _ w1 ni.tmps ni.defers um _ pq gY lU ha1.val hu ha1.len ha1.defers fun E' e w' q1 q2 q3=>⟨E',lD E' q1,q2,by rw [nh] at q3;exact q3⟩
     cases x with
     |normal=>
      exact J1
     |ret=>
      exact J1
     |exit j=>exact(au h2).elim
     |panic v=>
      cases ce<;>simp only [yI] at rN<;>first|exact rN.elim|skip
      exact leave (.panic v false) (.panicking _) rN h2
   ·exact(au hr).elim
  ·exact(au hr).elim
theorem jL (hm:P.follows .mixedOrders=true) {X:Hk} (H:Plain P X w0.w) {K:Gp I} (hK:J2 P lo w0 K):∀n,gm P lo w0 (uf (I:=I) P X lo K n).code∧gj P lo w0 (uf (I:=I) P X lo K n).call
 |0=>⟨fun ρ c a s e a' s' hr=>(au hr).elim,fun f args s r s' hr=>(au hr).elim⟩
 |n+1=>⟨Ri hm H (jL hm H hK n).1 (jL hm H hK n).2,by
   have hb:=J0 H (jL hm H hK n).1 (jL hm H hK n).2;intro f args s r s' hr E g w cj hR hA hF cG;change (qG P X lo K (uf P X lo K n) f args).run s=_ at hr;unfold qG at hr;split at hr
   ·exact hb f args s r s' hr E g w cj hR hA hF cG
   ·rename_i h;split at hr
    ·rename_i m hm;exact hK h rfl f args m hm s r s' hr E g w cj hR hA hF cG
    ·exact hb f args s r s' hr E g w cj hR hA hF cG⟩
theorem AV (hm:P.follows .mixedOrders=true) {X:Hk} (w:World) (H:Plain P X w) {n:Nat} {f:FuncId} {args:Array Value} {p:Value→Bool} (h:JV P X n f args p=true) (hg:args.toList.all (fD 3)=true):
  Calls P f args w fun e w'=>∃(v v':Value) (E:Env),p v=true∧e=.returned v'∧VR E v v'∧Below w.heap.size w w':=by
 unfold JV at h;split at h
 ·rename_i v s' hr;have hR:Rel P ⟨0,0⟩ ⟨w,fun _=>none⟩ (fun _=>none) (fun _=>none) w:=⟨Below.refl _ _,(fun k o h=>by cases h),(fun k k' o o' b r r' h=>by cases h),(fun k b r _ h=>by cases h),(fun k h=>absurd h (Nat.not_lt_zero k)),(fun k x h=>by cases h)⟩;have J3:fU (fun _=>none) args args:=⟨rfl,fun a c j ha hc=>by rw [ha] at hc;cases hc;exact cF _ 3 a (gp hg ha)⟩;have:=(jL (I:=Fh) (lo:=⟨0,0⟩) (w0:=⟨w,fun _=>none⟩) hm H (K:=none) (fun h e=>by cases e) n).2 f args (st0 0) (.ret v) s' hr (fun _=>none) (fun _=>none) w args hR (fun k hk=>rfl) (fun k _ _=>rfl) J3;exact J4
 ·cases h
end
end Go.Am