/- A part of the proof. Conditions: none. -/
import Derived.Test.YtbgjanmheagilaaGreatDoorZz
import Derived.Test.YtbgjanmheagilaaGreatDoorAmDX
import Derived.Laws.BytesString
import Derived.Laws.RangeAny
import Derived.Laws.RangeString
import Derived.Orders
set_option linter.unusedVariables false
set_option linter.unusedSimpArgs false
set_option maxRecDepth 100000
set_option maxHeartbeats 8000000
namespace Go.Am
open Go Go.RowKit
variable {μ:Type} {I:gT μ} {P:Program} {lo:dP} {w0:Bs} {E:Env} {H:(Nat→Option Obj)→Prop}
theorem fQ.set {as cs:Array Value} (h:fQ E as cs) {a c:Value} (i:Nat) (hv:VR E a c):fQ E (as.setIfInBounds i a) (cs.setIfInBounds i c):=by
 refine⟨by simpa using h.1,fun x y j hx hy=>?_⟩;rw [Array.getElem?_setIfInBounds] at hx hy;by_cases e:i=j
 ·subst e;simp only [if_true] at hx hy;split at hx<;>split at hy<;>first|(cases hx;done)|(cases hy;done)|(cases hx;cases hy;exact hv)
 ·rw [if_neg e] at hx hy;exact h.2 x y j hx hy
def PR (E:Env):List (Nat × Value)→List (Nat × Value)→Prop
 |[],[]=>True
 |a::as,c::cs=>a.1=c.1∧VR E a.2 c.2∧PR E as cs
 |_,_=>False
theorem C8 (off:Nat):∀(l l':List Value) (n:Nat) (as cs:Array Value),l.length=l'.length→(∀a c:Value,∀j:Nat,l[j]?=some a→l'[j]?=some c→VR E a c)→fQ E as cs→
  fQ E ((l.zipIdx n).foldl (fun b x=>b.setIfInBounds (off+x.2) x.1) as) ((l'.zipIdx n).foldl (fun b x=>b.setIfInBounds (off+x.2) x.1) cs)
 |[],[],n,as,cs,_,_,h=>h
 |a::l,c::l',n,as,cs,hl,hv,h=>by
  simp only [List.zipIdx_cons,List.foldl_cons];exact C8 off l l' (n+1) _ _ ud (fun x y j hx hy=>hv x y (j+1) (by simpa using hx) (by simpa using hy)) (h.set _ (hv a c 0 rfl rfl))
 |[],_::_,_,_,_,hl,_,_=>by simp at hl
 |_::_,[],_,_,_,hl,_,_=>by simp at hl
theorem qw (place:Nat→Option (Nat × Nat)):∀(ps C9:List (Nat × Value)) (as cs r:Array Value),PR E ps C9→fQ E as cs→Instr.fill place as ps=some r→∃r',Instr.fill place cs C9=some r'∧fQ E r r'
 |[],[],as,cs,r,_,h,hf=>by simp [Instr.fill] at hf;subst hf;exact⟨cs,rfl,h⟩
 |(i,v)::ps,(i',v')::C9,as,cs,r,hp,h,hf=>by
  obtain⟨h1,h2,h3⟩:=hp;simp only at h1 h2;subst h1;have hc:=h2.cells;simp only [Instr.fill] at hf ⊢;split at hf
  ·cases hf
  ·rename_i off size hpl;rw [←hc.1,←h.1];split at hf
   ·cases hf
   ·rename_i hne;rw [if_neg hne];refine qw place ps C9 _ _ r h3 ?_ hf;have:=C8 off v.cells.toList v'.cells.toList 0 as cs (by simpa using hc.1) (fun a c j ha hc'=>hc.2 a c j jd (by simpa using hc')) h;have tr:∀(u:Array Value) (b:Array Value),u.zipIdx.foldl (fun cs (x:Value × Nat)=>cs.setIfInBounds (off+x.2) x.1) b=(u.toList.zipIdx).foldl (fun b x=>b.setIfInBounds (off+x.2) x.1) b:=fun u b=>by
     rw [←Array.foldl_toList,Array.toList_zipIdx]
    exact(tr v.cells as).symm ▸ (tr v'.cells cs).symm ▸ this
 |[],_::_,_,_,_,hp,_,_=>hp.elim
 |_::_,[],_,_,_,hp,_,_=>hp.elim
def Da (P:Program) (t:TypeId):Bool:=(zeroOf P t).isSome
theorem wj {t:TypeId} {i:TypeInfo} {z:Value} (h:Da P t=true) (hi:P.info? t=some i) (hz:i.zero=some z):eu 3 z=true:=by
 unfold Da zeroOf at h;rw [hi] at h;simp only [hz] at h;cases hg:eu 3 z with
 |true=>rfl
 |false=>simp [hg] at h
def Fh (P:Program) (t:TypeId) (parts:List (Nat × Value)):M I Value:=bif Da P t then match P.built t parts with
  |some cs=>pure (.agg cs)
  |none=>fail
 else fail
theorem JA {t:TypeId} {ps C9:List (Nat × Value)} {r:Array Value} (hz0:Da P t=true) (hp:PR E ps C9) (h:P.built t ps=some r):∃r',P.built t C9=some r'∧fQ E r r':=by
 unfold Program.built at h ⊢;split at h
 ·rename_i it n e hit hu;split at h
  ·rename_i z ie hz iq;exact qw _ ps C9 z.cells z.cells r hp (bT E 3 z (wj hz0 hit hz)).cells h
  ·cases h
 ·rename_i it fs hit hu;split at h
  ·rename_i z pl hz hpl;exact qw _ ps C9 z.cells z.cells r hp (bT E 3 z (wj hz0 hit hz)).cells h
  ·cases h
 ·cases h
theorem Fm {t:TypeId} {ps:List (Nat × Value)} {C9:Array (Nat × Value)} (hp:PR E ps C9.toList):au P lo w0 E H (Fh P t ps:M I Value) (Instr.build t C9) VR:=by
 unfold Fh;cases hz:Da P t with
 |false=>exact au.fail
 |true=>
  simp only [cond_true];split
  ·rename_i cs hb;obtain⟨r',h1,h2⟩:=JA hz hp hb;exact au.val ⟨.agg r',fun w=>run_build w t C9 r' h1,.agg h2.1 h2.2⟩
  ·exact au.fail
def fI (z:List Value):Nat→List Value
 |0=>[]
 |n+1=>z++fI z n
theorem jD (z:List Value) (n:Nat):(fI z n).length=n*z.length:=by
 induction n with
 |zero=>simp [fI]
 |succ n ih=>simp [fI,ih,Nat.add_mul];omega
theorem gP (z:List Value):∀(n j:Nat),j<n*z.length→(fI z n)[j]?=z[j % z.length]?
 |0,j,h=>by simp at h
 |n+1,j,h=>by
  simp only [fI];by_cases hj:j<z.length
  ·rw [List.getElem?_append_left hj,Nat.mod_eq_of_lt hj]
  ·rw [List.getElem?_append_right aa,gP z n (j - z.length) (by rw [Nat.add_mul] at h;omega)];congr 1;exact(Nat.mod_eq_sub_mod aa).symm
theorem sO (z:Array Value) (n:Nat):madeCells z (n*z.size)=(fI z.toList n).toArray:=by
 apply Array.ext_getElem?;intro j;by_cases hj:j<n*z.size
 ·have hz:0<z.size:=by rcases Nat.eq_zero_or_pos z.size with h|h;(rw [h] at hj;simp at hj);exact h
  have hm:=Nat.mod_lt j hz;have h2:=gP z.toList n j (by simpa using hj);simp only [Array.length_toList] at h2;have h3:(fI z.toList n).toArray[j]?=(fI z.toList n)[j]?:=ai;rw [h3,h2];simp [madeCells,hj,hm]
 ·rw [Array.getElem?_eq_none (by simp [madeCells];omega),Array.getElem?_eq_none (by simp [jD];omega)]
def mV (P:Program) (t:TypeId) (n:Nat) (ps:List (Nat × Value)):M I Value:=match P.underlying t with
 |some (.slice e)=>match P.info? e,zeroOf P e with
  |some ie,some z=>bif Nat.beq z.cells.size ie.size && Nat.ble (n*ie.size) 16777216 then
    match Instr.fill (fun i=>some (i*ie.size,ie.size)) (fI z.cells.toList n).toArray ps with
    |some cs=>new (.cells cs e (0,0))>>=fun k=>pure (.slice (some ⟨k,0,none⟩) n n)
    |none=>fail
   else fail
  |_,_=>fail
 |_=>fail
theorem wm {z:Value} {n:Nat} (hz:eu 3 z=true):fQ E (fI z.cells.toList n).toArray (fI z.cells.toList n).toArray:=by
 refine⟨rfl,fun a c j ha hc=>?_⟩;rw [ha] at hc;cases hc;have hj:j<n*z.cells.size:=by
  have:=(Array.getElem?_eq_some_iff.1 ha).1;simpa [jD] using this
 rw [List.getElem?_toArray,gP _ _ _ (by simpa using hj)] at ha;exact(bT E 3 z hz).cells.2 a a _ jd jd
theorem qx {e:TypeId} {cs cs':Array Value} {n m:Nat} (h:fQ E cs cs') {c:Sem Value} (hc:∀w,c.run P w=.ok (.slice (some ⟨w.heap.size,0,none⟩) n m) (w.alloc (.cells cs' e (0,0)))):
  au P lo w0 E H (new (.cells cs e (0,0))>>=fun k=>(pure (.slice (some ⟨k,0,none⟩) n m):M I Value)) c VR:=
 au.new fun E1 g w k hE hR _ hk=>⟨_,_,0,_,hc w,hR.alloc _,eB w _,fun i hi=>Below.heap_alloc w _ i hi,
  .cells (by rw [Nat.zero_mul];exact h.1) (fun a v j ha hv=>((h.2 a v j ha hv).mono hE).mono (Env.ey hk)),.slice (r:=0) _ _ (by simp [Env.put])⟩
theorem tA {t:TypeId} {n:Nat} {ps:List (Nat × Value)} {C9:Array (Nat × Value)} (hp:PR E ps C9.toList):au P lo w0 E H (mV P t n ps:M I Value) (Instr.buildSlice t n C9) VR:=by
 unfold mV;split
 ·rename_i e hu;split
  ·rename_i ie z iq hz;cases hb:(Nat.beq z.cells.size ie.size && Nat.ble (n*ie.size) 16777216) with
   |false=>exact au.fail
   |true=>
    simp only [Bool.and_eq_true] at hb;have h1:=Nat.eq_of_beq_eq_true hb.1;have h2:=Nat.le_of_ble_eq_true hb.2;simp only [cond_true];split
    ·rename_i cs hf;have hzr:=bH hz;obtain⟨r',Dz,hA⟩:=qw _ ps C9.toList _ _ cs hp (wm (n:=n) (hzr default).2) hf;refine qx hA fun w=>?_
     have hle:¬(2 ^ 24<n*ie.size):=aa;have Ua:¬(16777216<n*ie.size):=aa;by_cases h0:n*ie.size=0
     ·have:fI z.cells.toList n=[]:=List.eq_nil_of_length_eq_zero (by rw [jD];simpa [h1] using h0);rw [this] at Dz;have e0:∀f:Nat→Value,(Array.range 0).map f=#[]:=fun f=>by simp
      simp [Instr.buildSlice,run_underlying hu,sizeOf,typeInfo,iq,h0,newRow];rw [e0,Dz];simp
     ·have hm:=sO z.cells n;rw [h1] at hm;rw [←hm] at Dz;unfold madeCells at Dz;simp [Instr.buildSlice,run_underlying hu,sizeOf,typeInfo,iq,h0,Ua,(hzr w).1,newRow,Dz]
    ·exact au.fail
  ·exact au.fail
 ·exact au.fail
def oV (P:Program) (t:TypeId) (l c:Value):M I Value:=match P.underlying t,l,c with
 |some (.slice e),.int _ l,.int _ c=>match P.info? e,zeroOf P e with
  |some ie,some z=>bif Nat.beq z.cells.size ie.size && decide (0≤l) && decide (l≤c) && decide (ie.bytes*c≤281474976710656) && decide (c≤9223372036854775807) then
    new (.cells (fI z.cells.toList c.toNat).toArray e (0,0))>>=fun k=>pure (.slice (some ⟨k,0,none⟩) l.toNat c.toNat)
   else fail
  |_,_=>fail
 |_,_,_=>fail
theorem vS {t:TypeId} {l c l' c':Value} (hl:VR E l l') (hc:VR E c c'):au P lo w0 E H (oV P t l c:M I Value) (Instr.makeSlice t l' c') VR:=by
 unfold oV;split
 ·rename_i e kl l kc c hu;cases hl;cases hc;split
  ·rename_i ie z iq hz;cases hb:(Nat.beq z.cells.size ie.size && decide (0≤l) && decide (l≤c) && decide (ie.bytes*c≤281474976710656) && decide (c≤9223372036854775807)) with
   |false=>exact au.fail
   |true=>
    simp only [Bool.and_eq_true,decide_eq_true_eq] at hb;obtain⟨⟨⟨⟨h1,h2⟩,h3⟩,h4⟩,h5⟩:=hb;have h1:=Nat.eq_of_beq_eq_true h1;have hzz:ie.zero=some z:=by
     unfold zeroOf at hz;rw [iq] at hz;simp only at hz;split at hz
     ·rename_i z' hz';cases hg:eu 3 z' with
      |true=>rw [hg] at hz;simp at hz;rw [hz',hz]
      |false=>rw [hg] at hz;simp at hz
     ·cases hz
    refine qx (wm (bH hz default).2) fun w=>?_
    rw [run_make w t e ie z hu iq hzz kl kc l c h2 h3 h4 h5,←h1,sO]
  ·exact au.fail
 ·exact au.fail
def CU:M I Value:=new (.map #[] 0)>>=fun k=>pure (.map (some k))
theorem AD {c:Sem Value} (hc:∀w,c.run P w=.ok (.map (some w.heap.size)) (w.alloc (.map #[] 0))):au P lo w0 E H (CU:M I Value) c VR:=
 au.new fun E1 g w k hE hR _ hk=>⟨_,_,0,_,hc w,hR.alloc _,eB w _,fun i hi=>Below.heap_alloc w _ i hi,.map 0 rfl (fun a c j h=>by simp at h),.map (r:=0) (by simp [Env.put])⟩
def zf (size m:Nat):Value→M I (List Value)
 | .slice none _ _=>pure []
 | .slice (some ⟨k,o,_⟩) _ _=>do
  match←rd k with
  | .cells c _ _=>bif Nat.ble (o+m*size) c.size then pure ((c.toList.drop o).take (m*size)) else fail
  |_=>fail
 | .string s=>pure ((s.data.toList.take m).map fun b=>.int .u8 b.toNat)
 |_=>fail
def FD (size m:Nat) (x:Value) (vs:List Value) (g:Nat→Option Obj):Prop:=match x with
 | .slice none _ _=>vs=[]
 | .slice (some a) _ _=>∃c e fr,g a.block=some (.cells c e fr)∧a.off+m*size≤c.size∧vs=(c.toList.drop a.off).take (m*size)
 | .string s=>vs=(s.data.toList.take m).map fun b=>.int .u8 b.toNat
 |_=>False
theorem jc {α β:Type} {size m:Nat} {x:Value} {f:List Value→M I α} {c:Sem β} {R:Env→α→β→Prop} (h:∀vs,au P lo w0 E (fun g=>H g∧FD size m x vs g) (f vs) c R):
  au P lo w0 E H (zf size m x>>=f) c R:=by
 unfold zf;split
 ·exact au.congr (kS _ _) ((h []).weak fun g hg=>⟨hg,rfl⟩)
 ·rename_i k o sp n cp;have hm:∀(ob:Obj),(match ob with
    | .cells c _ _=>bif Nat.ble (o+m*size) c.size then(pure ((c.toList.drop o).take (m*size)):M I (List Value)) else fail
    |_=>fail)>>=f=(match ob with
    | .cells c _ _=>bif Nat.ble (o+m*size) c.size then f ((c.toList.drop o).take (m*size)) else fail
    |_=>fail):=fun ob=>by
   cases ob with
   |cells c e fr=>cases hb:Nat.ble (o+m*size) c.size<;>simp only [hb]<;>rfl
   |_=>rfl
  have aaD:((rd k>>=fun ob=>match ob with
    | .cells c _ _=>bif Nat.ble (o+m*size) c.size then(pure ((c.toList.drop o).take (m*size)):M I (List Value)) else fail
    |_=>fail)>>=f).run=(rd k>>=fun ob=>(match ob with
    | .cells c _ _=>bif Nat.ble (o+m*size) c.size then f ((c.toList.drop o).take (m*size)) else fail
    |_=>fail)).run:=by
   funext s;show(M.bind (M.bind _ _) _).run s=(M.bind _ _).run s;simp only [M.bind];cases (rd k:M I Obj).run s with
   |none=>rfl
   |some p=>
    obtain⟨ob,s1⟩:=p;have:=congrArg (fun x=>x.run s1) (hm ob);exact this
  refine au.congr aaD (au.rd fun ob=>?_);cases ob with
  |cells c e fr=>
   cases hb:Nat.ble (o+m*size) c.size with
   |false=>simp only [hb];exact au.fail
   |true=>
    simp only [hb];exact(h _).weak fun g hg=>⟨hg.1,c,e,fr,hg.2,Nat.le_of_ble_eq_true hb,rfl⟩
  |_=>exact au.fail
 ·exact au.congr (kS _ _) ((h _).weak fun g hg=>⟨hg,rfl⟩)
 ·exact fun s a s' hr=>by obtain⟨a1,s1,h1,h2⟩:=ax hr;exact(aB h1).elim
def LR (E:Env) (as cs:List Value):Prop:=as.length=cs.length∧∀a c:Value,∀j:Nat,as[j]?=some a→cs[j]?=some c→VR E a c
theorem FD.run {size m:Nat} {x x':Value} {vs:List Value} {g:Nat→Option Obj} {w w1:World} (h:FD size m x vs g) (hR:Rel P lo w0 E g w) (hx:VR E x x') (hw:w1.heap=w.heap):
  ∃zP,(Builtin.firstCells size m x').run P w1=.ok zP.toArray w1∧LR E vs zP∧((∀a n c,x=.slice (some a) n c→vs.length=m*size)∧(∀s,x=.string s→m≤s.size→vs.length=m)):=by
 cases hx with
 |qI n c=>simp only [FD] at h;subst h;exact⟨[],by simp [Builtin.firstCells],⟨rfl,fun a c j h=>by simp at h⟩,by simp,by simp⟩
 |string s=>
  simp only [FD] at h;subst h;refine⟨_, ?_,⟨rfl,fun a c j ha hc=>?_⟩,by simp,fun s' hs hm=>?_⟩
  ·simp only [Builtin.firstCells,Sem.run_pure];congr 1;apply Array.toList_inj.1;simp [ByteArray.data_extract]
  ·rw [ha] at hc;cases hc;simp only [List.getElem?_map] at ha;obtain⟨b,_,rfl⟩:=Option.map_eq_some_iff.1 ha;exact .int _ _
  ·cases hs;have:s.data.toList.length=s.size:=ai;simp;omega
 | @slice k o b r n c hk=>
  obtain⟨cc,e,fr,h1,h2,rfl⟩:=h;obtain⟨cs,Qy,h3,h4,_,h5⟩:=hR.cells h1 hk;simp only at h2;have hlen:((cs.toList.drop o).take (m*size)).length=m*size:=aV;have hr:=run_firstCells_some (P:=P) w1 size m ⟨b,o,none⟩ n c ((cs.toList.drop o).take (m*size)) hlen (fun j v hj=>by
   rw [bO] at hj;split at hj
   ·rw [dH,cell_of (by rw [hw];exact h3)];exact hj
   ·cases hj)
  exact WE
 | @wide k o b r n c hk=>
  obtain⟨cc,e,fr,h1,h2,rfl⟩:=h;obtain⟨cs,Qy,h3,h4,_,h5⟩:=hR.cells h1 hk;simp only at h2;have hlen:((cs.toList.drop o).take (m*size)).length=m*size:=aV;have hr:=run_firstCells_some (P:=P) w1 size m ⟨b,o,none⟩ n (c+r) ((cs.toList.drop o).take (m*size)) hlen (fun j v hj=>by
   rw [bO] at hj;split at hj
   ·rw [dH,cell_of (by rw [hw];exact h3)];exact hj
   ·cases hj)
  exact WE
 |_=>exact h.elim
end Go.Am
/- A part of the proof. Conditions: none. -/
set_option maxRecDepth 100000
set_option maxHeartbeats 8000000
namespace Go.Am
open Go Go.RowKit
variable {μ:Type} {I:gT μ} {P:Program} {lo:dP} {w0:Bs} {E:Env} {H:(Nat→Option Obj)→Prop}
def G9:Value→Option Nat
 | .slice _ n _=>some n
 | .string s=>some s.size
 |_=>none
theorem iK {x x':Value} {n:Nat} (h:G9 x=some n) (hx:VR E x x') (w:World):(Builtin.lenOf x').run P w=.ok n w:=by
 cases hx<;>simp [G9] at h<;>subst h<;>rfl
def isInt (P:Program) (t:TypeId):Option Bool:=match P.underlying t with
 |some (.int _)=>some true
 |some _=>some false
 |none=>none
def Ay (P:Program) (lo:dP) (st xt:TypeId) (s x:Value):M I Value:=
 match P.underlying st,isInt P xt,s,G9 x with
 |some (.slice e),some false,.slice a n cap,some m=>match P.info? e,zeroOf P e with
  |some ie,some z=>
   bif Nat.ble (n+m) cap then match a with
    |none=>bif Nat.beq m 0 then pure (.slice none (n+m) cap) else fail
    |some a=>zf ie.size m x>>=fun news=>Kk lo a.block (a.off+n*ie.size) news>>=fun _=>pure (.slice (some a) (n+m) cap)
   else bif Nat.ble ((n+m)*ie.bytes) 140737488355328 && Nat.ble (n+m) 9223372036854775807 && Nat.beq z.cells.size ie.size then match a with
    |none=>bif Nat.beq n 0 then zf ie.size m x>>=fun news=>bif Nat.beq news.length (m*ie.size) then new (.cells news.toArray e (0,0))>>=fun k=>pure (.slice (some ⟨k,0,some 0⟩) (n+m) (n+m)) else fail else fail
    |some ⟨k0,o,none⟩=>zf ie.size n s>>=fun olds=>zf ie.size m x>>=fun news=>bif Nat.beq news.length (m*ie.size) then
      new (.cells (olds++news).toArray e (0,0))>>=fun k=>pure (.slice (some ⟨k,0,some 0⟩) (n+m) (n+m)) else fail
    |some ⟨k0,0,some 0⟩=>zf ie.size n s>>=fun olds=>zf ie.size m x>>=fun news=>bif Nat.beq news.length (m*ie.size) then rd k0>>=fun ob=>match ob with
      | .cells c e' (0,0)=>bif Nat.beq c.size (cap*ie.size) && Nat.beq e' e && news.all Value.oneCell' then
        wr lo k0 none>>=fun _=>new (.cells (olds++news).toArray e (0,0))>>=fun k=>pure (.slice (some ⟨k,0,some 0⟩) (n+m) (n+m)) else fail
      |_=>fail else fail
    |_=>fail
   else fail
  |_,_=>fail
 |_,_,_,_=>fail
theorem rM {t:TypeId} (h:isInt P t=some false):∃d,P.underlying t=some d∧∀k,d≠ .int k:=by
 unfold isInt at h;split at h
 ·cases h
 ·rename_i d hn hd;exact⟨d,hd,fun k e=>hn k e⟩
 ·cases h
theorem gq {st xt ty e:TypeId} {ie:TypeInfo} {x':Value} {b o n cap m:Nat} {vs:List Value} {w:World} (hu:P.underlying st=some (.slice e)) (hi:isInt P xt=some false) (iq:P.info? e=some ie)
  (hl:(Builtin.lenOf x').run P w=.ok m w) (hle:n+m≤cap) (hf:(Builtin.firstCells ie.size m x').run P w=.ok vs.toArray w):
  (Builtin.append_ #[st,xt] ty #[.slice (some ⟨b,o,none⟩) n cap,x']).run P w=((storeCells ⟨b,o+n*ie.size,none⟩ vs).run P w).andThen fun _ w'=>.ok (.slice (some ⟨b,o,none⟩) (n+m) cap) w':=by
 obtain⟨d,hd,hn⟩:=rM hi;simp [Builtin.append_,run_underlying hu,run_underlying hd,sizeOf,typeInfo,iq,hl,hle,hf,dH]
theorem tB {st xt ty e:TypeId} {ie:TypeInfo} {x':Value} {n cap m:Nat} {w:World} (hu:P.underlying st=some (.slice e)) (hi:isInt P xt=some false) (iq:P.info? e=some ie)
  (hl:(Builtin.lenOf x').run P w=.ok m w) (hle:n+m≤cap) (hf:∃vs,(Builtin.firstCells ie.size m x').run P w=.ok vs w):
  (Builtin.append_ #[st,xt] ty #[.slice none n cap,x']).run P w=.ok (.slice none (n+m) cap) w:=by
 obtain⟨d,hd,hn⟩:=rM hi;obtain⟨vs,hf⟩:=hf;simp [Builtin.append_,run_underlying hu,run_underlying hd,sizeOf,typeInfo,iq,hl,hle,hf]
theorem kg {st xt ty e:TypeId} {ie:TypeInfo} {z:Value} {x':Value} {a:Option Addr} {n cap m:Nat} {olds vs:List Value} {w:World} (hu:P.underlying st=some (.slice e)) (hi:isInt P xt=some false) (iq:P.info? e=some ie)
  (hz:ie.zero=some z) (hl:(Builtin.lenOf x').run P w=.ok m w) (hlt:cap<n+m) (hbytes:(n+m)*ie.bytes≤140737488355328) (h63:n+m≤9223372036854775807)
  (ho:(Builtin.firstCells ie.size n (.slice a n cap)).run P w.drew=.ok olds.toArray w.drew) (hf:(Builtin.firstCells ie.size m x').run P w.drew=.ok vs.toArray w.drew):
  (Builtin.append_ #[st,xt] ty #[.slice a n cap,x']).run P w=.ok (.slice (some ⟨w.heap.size,0,none⟩) (n+m) (grownCap w (n+m) cap e))
   (w.drew.alloc (.cells ((olds++vs).toArray++Builtin.zeroCells z.cells (grownCap w (n+m) cap e - (n+m))) e)):=by
 obtain⟨d,hd,hn⟩:=rM hi;have A4:¬(n+m≤cap):=aa;have Zc:¬(9223372036854775807<((n:Int)+(m:Int))):=aa;have h48:=growslice_fits hlt hbytes;have ahw:¬(281474976710656<Builtin.nextslicecap (n+m) cap*ie.bytes):=aa;simp [Builtin.append_,run_underlying hu,run_underlying hd,sizeOf,typeInfo,zeroValue,iq,hz,hl,A4,Zc,ahw,Question.forced,hf,ho,newRow,grownCap];congr 2;apply Array.ext';simp [List.append_assoc]
theorem au.point {α β:Type} {m:M I α} {c:Sem β} {R:Env→α→β→Prop} (h:∀E1 g w,(∀k x,E k=some x→E1 k=some x)→Rel P lo w0 E1 g w→H g→∃c',c.run P w=c'.run P w∧au P lo w0 E1 P6 m c' R):au P lo w0 E H m c R:=by
 intro s a s' hr E1 g w hE hR hA hF hH;obtain⟨c',hc,hs⟩:=h E1 g w hE hR hH;obtain⟨E2,d,w1,h1,h2,h3,h4⟩:=hs s a s' hr E1 g w (fun _ _ h=>h) hR hA hF trivial;exact⟨E2,d,w1,by rw [hc];exact h1,h2,h3,h4⟩
theorem Dh {α β:Type} {k0:Nat} {o:Obj} {f:Nat→α} {c:Sem β} {R:Env→α→β→Prop} (h:∀E1 g w k,(∀k x,E k=some x→E1 k=some x)→Rel P lo w0 E1 g w→H g→E1 k=none→lo.lo≤k0→∀o0,g k0=some o0→
  ∃b w' bl r co,c.run P w=.ok b w'∧Below w0.w.heap.size w0.w w'∧w0.w.heap.size≤bl∧w'.heap[bl]?=some co∧(∀i,i≠bl→i<w.heap.size→w'.heap[i]?=w.heap[i]?)∧(bl=w.heap.size∨∃r',E1 k0=some (bl,r'))∧OR P (E1.put k bl r) r o co∧R (E1.put k bl r) (f k) b):
  au P lo w0 E H (wr lo k0 none>>=fun _=>new o>>=fun k=>(Pure.pure (f k):M I α)) c R:=by
 intro s a' s' hr E1 g w hE hR hA hF hH;obtain⟨u,s1,hr3,hr2⟩:=ax hr;obtain⟨k,s2,hr1,hr4⟩:=ax hr2;obtain⟨rfl,rfl⟩:=pure_run hr4;obtain⟨d1,⟨o0,d2⟩,d3,d4,d5,d6⟩:=zi hr3;obtain⟨rfl,e2,e3,e4,e5,e6⟩:=zj hr1;have l2:=(new o:M I Nat).le _ _ _ hr1;have hk:E1 s1.next=none:=hF s1.next aa aa;have hg0:g k0=I.get s.mem k0:=hA _ (by rw [l2.W _ (by rw [d5];simp),Bool.or_true]);have hg:g k0=some o0:=by rw [hg0,d2]
 have eA:k0≠s1.next:=fun e=>by
  obtain⟨b',r',co',h1,_⟩:=hR.tie _ _ hg;rw [e,hk] at h1;cases h1
 obtain⟨b,w',bl,r,co,h1,h2,h3,h4,h5,h6,h7,h8⟩:=h E1 g w s1.next hE hR hH hk d1 o0 hg;refine⟨E1.put s1.next bl r,b,w',h1,⟨Env.ey hk,fun i hi=>?_⟩,h8, ?_⟩
 ·by_cases e:i=s1.next
  ·subst e;exact .inr ⟨by omega,by omega⟩
  ·simp [Env.put,e] at hi;exact .inl (by simpa using hi)
 ·have hm:merge I s' g=fun i=>if i=s1.next then some o else if i=k0 then none else g i:=by
   funext i;unfold merge;by_cases ei:i=s1.next
   ·subst ei;rw [if_pos (by rw [e5];simp),e6,if_pos rfl,if_pos rfl]
   ·rw [if_neg ei];by_cases e0:i=k0
    ·subst e0;rw [if_pos (by rw [e5,d5];simp),e6,if_neg ei,d6,if_pos rfl,if_pos rfl]
    ·rw [if_neg e0];split
     ·rename_i hw;rw [e6,if_neg ei,d6,if_neg e0];exact(hA i (by rw [hw,Bool.or_true])).symm
     ·rfl
  rw [hm];refine(hR.kill k0).name hk h2 h3 h4 h5 (fun i o' r' hi he=>?_) h7;by_cases e0:i=k0
  ·simp [e0] at hi
  ·simp [e0] at hi;rcases h6 with rfl|⟨r2,h6⟩
   ·exact absurd (hR.lt hi he) (Nat.lt_irrefl _)
   ·exact e0 (hR.inj _ _ _ _ _ _ _ hi hg he h6)
theorem wB {g:Nat→Option Obj} {w:World} (h:Rel P lo w0 E g w):Rel P lo w0 E g w.drew:=⟨h.below.drew,h.tie,h.inj,h.own,h.old,h.kept⟩
theorem LR.append {as bs cs ds:List Value} (h:LR E as cs) (k:LR E bs ds):LR E (as++bs) (cs++ds):=by
 refine⟨by simp [h.1,k.1],fun a c j ha hc=>?_⟩;by_cases hj:j<as.length
 ·rw [List.getElem?_append_left hj] at ha;rw [List.getElem?_append_left (by rw [←h.1];exact hj)] at hc;exact h.2 a c j ha hc
 ·rw [List.getElem?_append_right aa] at ha;rw [List.getElem?_append_right (by rw [←h.1];omega),←h.1] at hc;exact k.2 a c _ ha hc
theorem yN {as cs:List Value} {e:TypeId} {ie:TypeInfo} {z:Value} {r:Nat} (h:LR E as cs) (iq:P.info? e=some ie) (hz:z.cells.size=ie.size):
  OR P E r (.cells as.toArray e (0,0)) (.cells (cs.toArray++Builtin.zeroCells z.cells r) e (0,0)):=by
 refine .cells ?_ fun a c j ha hc=>?_
 ·simp [size_zeroCells,hz,oX iq,h.1]
 ·have hj:j<as.length:=by
   exact N1
  rw [Array.getElem?_append_left (by simpa [←h.1] using hj)] at hc;exact h.2 a c j jd (by simpa using hc)
theorem sP {t:TypeId} {z:Value} {i:TypeInfo} (h:zeroOf P t=some z) (hi:P.info? t=some i):i.zero=some z:=by
 unfold zeroOf at h;rw [hi] at h;simp only at h;split at h
 ·rename_i z' hz';cases hg:eu 3 z' with
  |true=>rw [hg] at h;simp at h;rw [hz',h]
  |false=>rw [hg] at h;simp at h
 ·cases h
theorem ki {st xt ty e:TypeId} {ie:TypeInfo} {z:Value} {s s' x x':Value} {a':Option Addr} {n cap m:Nat} {olds news:List Value} (hu:P.underlying st=some (.slice e)) (hi:isInt P xt=some false) (iq:P.info? e=some ie)
  (hz:zeroOf P e=some z) (hzs:z.cells.size=ie.size) (hm:G9 x=some m) (hx:VR E x x') (hs':s'=.slice a' n cap) (hlt:cap<n+m) (hbytes:(n+m)*ie.bytes≤140737488355328) (h63:n+m≤9223372036854775807)
  (hold:∀E1 g w,(∀k x,E k=some x→E1 k=some x)→Rel P lo w0 E1 g w→H g→∃yO,(Builtin.firstCells ie.size n (.slice a' n cap)).run P w.drew=.ok yO.toArray w.drew∧LR E1 olds yO∧olds.length=n*ie.size)
  (ahx:∀g,H g→FD ie.size m x news g) (ze:news.length=m*ie.size):
  au P lo w0 E H (new (.cells (olds++news).toArray e (0,0))>>=fun k=>(pure (.slice (some ⟨k,0,some 0⟩) (n+m) (n+m)):M I Value)) (Builtin.append_ #[st,xt] ty #[s',x']) VR:=by
 subst hs';refine au.new fun E1 g w k hE hR hH hk=>?_
 obtain⟨yO,ho,PG,W9⟩:=hold E1 g w hE hR hH;obtain⟨tY,hn,dW,_⟩:=(ahx g hH).run (w1:=w.drew) hR (hx.mono hE) rfl;have hrun:=kg (P:=P) (ty:=ty) (w:=w) hu hi iq (sP hz iq) (iK hm (hx.mono hE) w) hlt hbytes h63 ho hn;have jx:=grownCap_ge w (n+m) cap e;refine⟨_,_,grownCap w (n+m) cap e - (n+m),_,hrun,(wB hR).alloc _,eB w.drew _,fun i hi=>Below.heap_alloc w.drew _ i hi, ?_, ?_⟩
 ·have hL:=PG.append dW;exact yN (ie:=ie) ⟨hL.1,fun a c j ha hc=>(hL.2 a c j ha hc).mono (Env.ey hk)⟩ iq hzs
 ·have hw:=VR.wide (E:=E1.put k w.heap.size (grownCap w (n+m) cap e - (n+m))) (o:=0) (n+m) (n+m) (by simp [Env.put]:(E1.put k w.heap.size (grownCap w (n+m) cap e - (n+m))) k=some (w.heap.size,grownCap w (n+m) cap e - (n+m)))
  rwa [show n+m+(grownCap w (n+m) cap e - (n+m))=grownCap w (n+m) cap e by omega] at hw
theorem CV {st xt ty:TypeId} {s x s' x':Value} (hs:VR E s s') (hx:VR E x x'):au P lo w0 E P6 (Ay P lo st xt s x:M I Value) (Builtin.append_ #[st,xt] ty #[s',x']) VR:=by
 unfold Ay;split
 ·rename_i e a n cap m hu hi hm;split
  ·rename_i ie z iq hz;cases hle:Nat.ble (n+m) cap with
   |true=>
    have Ua:=Nat.le_of_ble_eq_true hle;simp only [cond_true];cases hs with
    |qI=>
     cases G8:Nat.beq m 0 with
     |false=>exact au.fail
     |true=>
      have G8:=Nat.eq_of_beq_eq_true G8;subst G8;refine au.val ⟨_,fun w=>tB hu hi iq (iK hm hx w) Ua ?_,.qI _ _⟩;cases hx<;>simp [G9] at hm<;>first|exact⟨_,by simp [Builtin.firstCells,loadCells,loadCellsFrom];rfl⟩|exact⟨_,by simp [Builtin.firstCells];rfl⟩
    | @slice k o b r _ _ hk=>
     refine jc fun news=>au.point fun E1 g w hE hR ⟨_,hH⟩=>?_
     obtain⟨tY,hn,dW,_⟩:=hH.run hR (hx.mono hE) rfl;refine⟨storeCells ⟨b,o+n*ie.size,none⟩ tY>>=fun _=>pure (.slice (some ⟨b,o,none⟩) (n+m) cap), ?_,au.bind (lQ (hE _ _ hk) dW.1 dW.2) fun E2 _ _ Bh _=>au.pure fun E3 Uw=>.slice _ _ (Uw _ _ (Bh _ _ (hE _ _ hk)))⟩;rw [gq hu hi iq (iK hm (hx.mono hE) w) Ua hn];simp
    | @wide k o b r _ _ hk=>
     refine jc fun news=>au.point fun E1 g w hE hR ⟨_,hH⟩=>?_
     obtain⟨tY,hn,dW,_⟩:=hH.run hR (hx.mono hE) rfl;refine⟨storeCells ⟨b,o+n*ie.size,none⟩ tY>>=fun _=>pure (.slice (some ⟨b,o,none⟩) (n+m) (cap+r)), ?_,au.bind (lQ (hE _ _ hk) dW.1 dW.2) fun E2 _ _ Bh _=>au.pure fun E3 Uw=>.wide _ _ (Uw _ _ (Bh _ _ (hE _ _ hk)))⟩;rw [gq hu hi iq (iK hm (hx.mono hE) w) aa hn];simp
   |false=>
    simp only [cond_false];have hlt:cap<n+m:=by
     rcases Nat.lt_or_ge cap (n+m) with h|h
     ·exact h
     ·rw [Nat.ble_eq_true_of_le h] at hle;cases hle
    cases hb:(Nat.ble ((n+m)*ie.bytes) 140737488355328 && Nat.ble (n+m) 9223372036854775807 && Nat.beq z.cells.size ie.size) with
    |false=>exact au.fail
    |true=>
     simp only [Bool.and_eq_true] at hb;obtain⟨⟨hb1,hb2⟩,hb3⟩:=hb;have hb1:=Nat.le_of_ble_eq_true hb1;have hb2:=Nat.le_of_ble_eq_true hb2;have hb3:=Nat.eq_of_beq_eq_true hb3;simp only [cond_true];cases hs with
     |qI=>
      cases AY:Nat.beq n 0 with
      |false=>exact au.fail
      |true=>
       have AY:=Nat.eq_of_beq_eq_true AY;subst AY;simp only [cond_true];refine jc fun news=>?_
       cases ze:Nat.beq news.length (m*ie.size) with
       |false=>exact au.fail
       |true=>
        have ze:=Nat.eq_of_beq_eq_true ze;have:=ki (I:=I) (lo:=lo) (w0:=w0) (E:=E) (H:=fun g=>P6 g∧FD ie.size m x news g) (ty:=ty) (olds:=[]) (s:=.nilFunc) (a':=none) (n:=0) hu hi iq hz hb3 hm hx rfl hlt hb1 hb2
         (fun E1 g w hE hR _=>⟨[],by simp [Builtin.firstCells],⟨rfl,fun a c j h=>by simp at h⟩,by simp⟩) (fun g hg=>hg.2) ze
        exact this
     | @slice k o b r _ _ hk=>
      refine jc fun olds=>jc fun news=>?_
      cases ze:Nat.beq news.length (m*ie.size) with
      |false=>exact au.fail
      |true=>
       have ze:=Nat.eq_of_beq_eq_true ze;refine ki (s:=.nilFunc) hu hi iq hz hb3 hm hx rfl hlt hb1 hb2 (fun E1 g w hE hR hH=>?_) (fun g hg=>hg.2) ze;obtain⟨yO,h1,h2,h3,_⟩:=hH.1.2.run (w1:=w.drew) hR ((VR.slice (E:=E) n cap hk).mono hE) rfl;exact⟨yO,h1,h2,h3 _ _ _ rfl⟩
     | @wide k o b r _ _ hk=>
      cases o with
      |succ o=>exact au.fail
      |zero=>
       refine jc fun olds=>jc fun news=>?_
       cases ze:Nat.beq news.length (m*ie.size) with
       |false=>exact au.fail
       |true=>
        have ze:=Nat.eq_of_beq_eq_true ze;simp only [cond_true];refine au.rd fun ob=>?_
        split
        ·rename_i c e';cases hc:(Nat.beq c.size (cap*ie.size) && Nat.beq e' e && news.all Value.oneCell') with
         |false=>exact au.fail
         |true=>
          simp only [Bool.and_eq_true] at hc;obtain⟨⟨hc1,hc2⟩,hc3⟩:=hc;have hc1:=Nat.eq_of_beq_eq_true hc1;have hc2:=Nat.eq_of_beq_eq_true hc2;subst hc2;simp only [cond_true];refine Dh fun E1 g w k2 hE hR ⟨⟨⟨_,hH1⟩,hH2⟩,hg⟩ hk2 PG o0 hg0=>?_
          obtain⟨yO,h1,ahy,h3,_⟩:=hH1.run (w1:=w.drew) hR ((VR.wide (E:=E) n cap hk).mono hE) rfl;obtain⟨tY,h4,dW,_⟩:=hH2.run (w1:=w.drew) hR (hx.mono hE) rfl;obtain⟨nY,WL,Ug,_⟩:=hH2.run (w1:=w) hR (hx.mono hE) rfl;have W9:=h3 _ _ _ rfl;by_cases hroom:n+m≤cap+r
          ·
           obtain⟨cs,Qy,uE,hw2,hw3,hw4⟩:=hR.cells hg (hE _ _ hk);obtain⟨rfl,hsz⟩:=hw3 rfl;have hsz':cs.size=(cap+r)*ie.size:=by rw [←hsz,hc1,oX iq,Nat.add_mul]
           have ahz:nY.length=m*ie.size:=by rw [←Ug.1,ze]
           have hmul:(n+m)*ie.size≤(cap+r)*ie.size:=Nat.mul_le_mul_right _ hroom;have yR:∀v∈nY,v.oneCell'=true:=fun v hv'=>by
            obtain⟨j,hj,rfl⟩:=List.getElem_of_mem hv';have hj':j<news.length:=by rw [Ug.1];exact hj
            have:=(Ug.2 news[j] nY[j] j (by simp [hj']) (by simp [hj])).one;rw [this];exact List.all_eq_true.1 hc3 _ (List.getElem_mem _)
           have fS:n*ie.size+nY.length≤cs.size:=by rw [ahz,←Nat.add_mul,hsz'];exact hmul
           have hst:=run_storeCells_at P b (n*ie.size) e' nY 0 cs w uE aa yR;have hrun:=gq (P:=P) (ty:=ty) (o:=0) (b:=b) hu hi iq (iK hm (hx.mono hE) w) hroom WL;rw [Nat.zero_add,hst] at hrun;have hT:=nZ (cs:=(cs.toList.take (n*ie.size+0)++nY++cs.toList.drop (n*ie.size+0+nY.length)).toArray) uE;refine⟨_,_,b,cap+r - (n+m),_,hrun, ?_,hR.own _ _ _ PG (hE _ _ hk),hT.at_,fun i hi _=>hT.other i hi,.inr ⟨r,hE _ _ hk⟩,.cells ?_ fun a v j ha hv=>?_, ?_⟩
           ·refine hR.below.trans ⟨rfl,rfl,rfl,by simp,fun i hi=>hT.other i ?_⟩;have:=hR.own _ _ _ PG (hE _ _ hk);omega
           ·have e1:((cs.toList.take (n*ie.size+0)++nY++cs.toList.drop (n*ie.size+0+nY.length)).toArray).size=cs.size:=by simp;omega
            rw [e1,oX iq,hsz'];simp only [List.size_toArray,List.length_append,W9,ze];rw [←Nat.add_mul,←Nat.add_mul];congr 1;omega
           ·have hL:LR E1 (olds++news) (cs.toList.take (n*ie.size)++nY):=by
             refine LR.append ⟨by simp [W9];omega,fun a c j ha hc=>?_⟩ Ug;obtain⟨cc,ee,ff,g1,g2,rfl⟩:=hH1;rw [hg] at g1;cases g1;rw [List.drop_zero,List.getElem?_take] at ha;rw [List.getElem?_take] at hc;split at ha
             ·rw [if_pos (by assumption)] at hc;exact hw4 a c j jd (by simpa using hc)
             ·cases ha
            have hj:j<(olds++news).length:=by
             exact N1
            rw [Nat.add_zero,List.getElem?_toArray,List.getElem?_append_left (by rw [←hL.1];exact hj)] at hv;exact(hL.2 a v j jd hv).mono (Env.ey hk2)
           ·have hw:=VR.wide (E:=E1.put k2 b (cap+r - (n+m))) (o:=0) (n+m) (n+m) (by simp [Env.put]:(E1.put k2 b (cap+r - (n+m))) k2=some (b,cap+r - (n+m)))
            rwa [show n+m+(cap+r - (n+m))=cap+r by omega] at hw
          ·
           have hrun:=kg (P:=P) (ty:=ty) (w:=w) hu hi iq (sP hz iq) (iK hm (hx.mono hE) w) aa hb1 hb2 h1 h4;have jx:=grownCap_ge w (n+m) (cap+r) e';refine⟨_,_,w.heap.size,grownCap w (n+m) (cap+r) e' - (n+m),_,hrun,(wB hR).alloc _,hR.below.size,eB w.drew _,fun i _ hi=>Below.heap_alloc w.drew _ i hi,.inl rfl, ?_, ?_⟩
           ·have hL:=ahy.append dW;exact yN (ie:=ie) ⟨hL.1,fun a c j ha hc=>(hL.2 a c j ha hc).mono (Env.ey hk2)⟩ iq hb3
           ·have hw:=VR.wide (E:=E1.put k2 w.heap.size (grownCap w (n+m) (cap+r) e' - (n+m))) (o:=0) (n+m) (n+m) (by simp [Env.put]:(E1.put k2 w.heap.size (grownCap w (n+m) (cap+r) e' - (n+m))) k2=some (w.heap.size,grownCap w (n+m) (cap+r) e' - (n+m)))
            rwa [show n+m+(grownCap w (n+m) (cap+r) e' - (n+m))=grownCap w (n+m) (cap+r) e' by omega] at hw
        ·exact au.fail
  ·exact au.fail
 ·exact au.fail
end Go.Am
/- A part of the proof. Conditions: none. -/
set_option maxRecDepth 100000
set_option maxHeartbeats 8000000
namespace Go.Am
open Go Go.RowKit
variable {μ:Type} {I:gT μ} {P:Program} {lo:dP} {w0:Bs} {E:Env} {H:(Nat→Option Obj)→Prop}
def Kj (P:Program) (lo:dP) (dT:TypeId) (d x:Value):M I Value:=match P.underlying dT,d,G9 x with
 |some (.slice e),.slice (some a) dl _,some sl=>match P.info? e with
  |some ie=>zf ie.size (Nat.min sl dl) x>>=fun news=>Kk lo a.block a.off news>>=fun _=>pure (.int .i64 (Nat.min sl dl))
  |none=>fail
 |_,_,_=>fail
theorem Hg {dT sT ty:TypeId} {d d' x x':Value} (hd:VR E d d') (hx:VR E x x'):au P lo w0 E P6 (Kj P lo dT d x:M I Value) (Builtin.copy_ #[dT,sT] ty #[d',x']) VR:=by
 unfold Kj;split
 ·rename_i e a dl dc sl hu hl;split
  ·rename_i ie iq;refine jc fun news=>au.point fun E1 g w hE hR ⟨_,hH⟩=>?_
   obtain⟨tY,hn,dW,_⟩:=hH.run hR (hx.mono hE) rfl;have hlen:=iK (P:=P) hl (hx.mono hE) w;have hrun:∀(b o cp:Nat),(Builtin.copy_ #[dT,sT] ty #[.slice (some ⟨b,o,none⟩) dl cp,x']).run P w=(storeCells ⟨b,o,none⟩ tY>>=fun _=>pure (.int .i64 (Nat.min sl dl)):Sem Value).run P w:=fun b o cp=>by
    simp [Builtin.copy_,run_underlying hu,hlen,sizeOf,typeInfo,iq,hn,goInt]
   cases hd with
   | @slice k o b r _ _ hk=>exact⟨_,hrun b o _,au.bind (lQ (hE _ _ hk) dW.1 dW.2) fun E2 _ _ Bh _=>au.pure fun E3 Uw=>.int _ _⟩
   | @wide k o b r _ _ hk=>exact⟨_,hrun b o _,au.bind (lQ (hE _ _ hk) dW.1 dW.2) fun E2 _ _ Bh _=>au.pure fun E3 Uw=>.int _ _⟩
  ·exact au.fail
 ·exact au.fail
def xe (kind:TypeDesc) (k:Value):List MapEntry→Nat→Option (Option Nat)
 |[],_=>some none
 |e::es,i=>match Instr.sameNow kind k e.key with
  |some true=>some (some i)
  |some false=>xe kind k es (i+1)
  |none=>none
def xg (P:Program) (t:TypeId) (k:Value):List MapEntry→Nat→Option (Option Nat)
 |[],_=>some none
 |e::es,i=>match fe P (Op.equal t k e.key) with
  |some true=>some (some i)
  |some false=>xg P t k es (i+1)
  |none=>none
def qH:List MapEntry→List MapEntry→Prop
 |[],[]=>True
 |a::as,c::cs=>c.key=a.key∧qH as cs
 |_,_=>False
theorem oh (kind:TypeDesc) (k:Value):∀(es es':List MapEntry) (i:Nat),qH es es'→
  match xe kind k es i with
  |none=>Instr.findNow kind k es' i=none
  |some none=>Instr.findNow kind k es' i=some none
  |some (some j)=>i≤j∧∃e',es'[j - i]?=some e'∧Instr.findNow kind k es' i=some (some (j,e'.val))
 |[],[],i,_=>by simp [xe,Instr.findNow]
 |e::es,e'::es',i,h=>by
  obtain⟨h1,h2⟩:=h;have ih:=oh kind k es es' (i+1) h2;simp only [xe,Instr.findNow,h1];cases Instr.sameNow kind k e.key with
  |none=>simp
  |some b=>
   cases b with
   |true=>simp
   |false=>
    simp only;cases hq:xe kind k es (i+1) with
    |none=>rw [hq] at ih;exact ih
    |some r=>
     cases r with
     |none=>rw [hq] at ih;exact ih
     |some j=>
      rw [hq] at ih;obtain⟨a1,e2,a2,a3⟩:=ih;refine⟨by omega,e2, ?_,a3⟩;rw [show j - i=(j - (i+1))+1 by omega];simpa using a2
 |[],_::_,_,h=>h.elim
 |_::_,[],_,h=>h.elim
theorem om (t:TypeId) (k:Value) (w:World):∀(es es':List MapEntry) (i:Nat),qH es es'→
  match xg P t k es i with
  |none=>True
  |some none=>(Instr.findAsking t k es' i).run P w=.ok none w
  |some (some j)=>i≤j∧∃e',es'[j - i]?=some e'∧(Instr.findAsking t k es' i).run P w=.ok (some (j,e'.val)) w
 |[],[],i,_=>by simp [xg,Instr.findAsking]
 |e::es,e'::es',i,h=>by
  obtain⟨h1,h2⟩:=h;have ih:=om t k w es es' (i+1) h2;simp only [xg];cases hp:fe P (Op.equal t k e.key) with
  |none=>simp
  |some b=>
   have hr:=lR hp w;cases b with
   |true=>simp [Instr.findAsking,h1,hr]
   |false=>
    simp only;cases hq:xg P t k es (i+1) with
    |none=>trivial
    |some r=>
     cases r with
     |none=>rw [hq] at ih;simp [Instr.findAsking,h1,hr,ih]
     |some j=>
      rw [hq] at ih;obtain⟨a1,e2,a2,a3⟩:=ih;refine⟨by omega,e2, ?_,by simp [Instr.findAsking,h1,hr,a3]⟩;rw [show j - i=(j - (i+1))+1 by omega];simpa using a2
 |[],_::_,_,h=>h.elim
 |_::_,[],_,h=>h.elim
def tZ (P:Program) (t:TypeId) (k:Value) (es:List MapEntry):Option (Option Nat):=match P.underlying t with
 |some d=>match xe d k es 0 with
  |some r=>some r
  |none=>xg P t k es 0
 |none=>none
theorem oo {t:TypeId} {k:Value} {es es':List MapEntry} (h:tZ P t k es=some none) (hk:qH es es') (w:World):(Instr.findKey t k es').run P w=.ok none w:=by
 unfold tZ at h;split at h
 ·rename_i d hd;have h1:=oh d k es es' 0 hk;have h2:=om (P:=P) t k w es es' 0 hk;split at h
  ·rename_i r hr;cases h;rw [hr] at h1;simp [Instr.findKey,run_underlying hd,h1]
  ·rename_i hr;rw [hr] at h1;rw [h] at h2;simp [Instr.findKey,run_underlying hd,h1,h2]
 ·cases h
theorem ua {t:TypeId} {k:Value} {es es':List MapEntry} {j:Nat} (h:tZ P t k es=some (some j)) (hk:qH es es') (w:World):∃e',es'[j]?=some e'∧(Instr.findKey t k es').run P w=.ok (some (j,e'.val)) w:=by
 unfold tZ at h;split at h
 ·rename_i d hd;have h1:=oh d k es es' 0 hk;have h2:=om (P:=P) t k w es es' 0 hk;split at h
  ·rename_i r hr;cases h;rw [hr] at h1;obtain⟨_,e',a1,a2⟩:=h1;exact⟨e',by simpa using a1,by simp [Instr.findKey,run_underlying hd,a2]⟩
  ·rename_i hr;rw [hr] at h1;rw [h] at h2;obtain⟨_,e',a1,a2⟩:=h2;exact⟨e',by simpa using a1,by simp [Instr.findKey,run_underlying hd,h1,a2]⟩
 ·cases h
theorem jI:∀(es cs:List MapEntry),es.length=cs.length→(∀a c:MapEntry,∀j:Nat,es[j]?=some a→cs[j]?=some c→c.key=a.key)→qH es cs
 |[],[],_,_=>trivial
 |a::as,c::cs,hl,h=>⟨h a c 0 rfl rfl,jI as cs ud fun x y j hx hy=>h x y (j+1) (by simpa using hx) (by simpa using hy)⟩
 |[],_::_,hl,_=>by simp at hl
 |_::_,[],hl,_=>by simp at hl
def rQ (P:Program) (empty:Bool) (t:TypeId) (k:Value):Bool:=eu 3 k && (fe P (Instr.checkKey empty 10000 t k)).isSome
theorem cU {empty:Bool} {t:TypeId} {k:Value} (h:rQ P empty t k=true) (w:World):eu 3 k=true∧(Instr.checkKey empty 10000 t k).run P w=.ok () w:=by
 unfold rQ at h;simp only [Bool.and_eq_true] at h;obtain⟨h1,h2⟩:=h;obtain⟨u,hu⟩:=Option.isSome_iff_exists.1 h2;exact⟨h1,lR hu w⟩
theorem Rel.Kl {g:Nat→Option Obj} {w:World} (h:Rel P lo w0 E g w) {k clock:Nat} {es:Array MapEntry} (hg:g k=some (.map es clock)) {b r:Nat} (hE:E k=some (b,r)):
  ∃cs,w.heap[b]?=some (.map cs clock)∧es.size=cs.size∧∀a c:MapEntry,∀j:Nat,es[j]?=some a→cs[j]?=some c→c.key=a.key∧c.born=a.born∧VR E a.val c.val:=by
 obtain⟨b',r',co,h1,h2,h3⟩:=h.tie k _ hg;rw [h1] at hE;cases hE;cases h3 with
 |map clock hs hv=>exact⟨_,h2,hs,hv⟩
theorem cg {w:World} {b clock:Nat} {cs:Array MapEntry} (h:w.heap[b]?=some (.map cs clock)):(getObj b).run P w=.ok (.map cs clock) w:=by
 simp [getObj,Sem.run,h]
theorem kU {w:World} {b clock clock':Nat} {cs cs':Array MapEntry} (h:w.heap[b]?=some (.map cs clock)):(setObj b (.map cs' clock')).run P w=.ok () {w with heap:=w.heap.setIfInBounds b (.map cs' clock')}:=by
 simp [setObj,Sem.run,h]
theorem ju {w:World} {b:Nat} {o o':Obj} (h:w.heap[b]?=some o):ue b o' w {w with heap:=w.heap.setIfInBounds b o'}:=by
 have hb:=(Array.getElem?_eq_some_iff.1 h).1;exact⟨rfl,rfl,rfl,by simp,by simp [hb],fun i hi=>by simp [Array.getElem?_setIfInBounds,Ne.symm hi]⟩
def zg (P:Program) (t:TypeId) (x k:Value) (ok:Bool):M I Value:=match P.underlying t,x with
 |some (.map kt et),.map none=>bif rQ P true kt k then match tZ P kt k [],zeroOf P et with
   |some none,some z=>pure (bif ok then .tuple #[z,.bool false] else z)
   |_,_=>fail
  else fail
 |some (.map kt et),.map (some n)=>rd n>>=fun ob=>match ob with
  | .map es _=>bif rQ P es.isEmpty kt k then match tZ P kt k es.toList with
    |some (some j)=>match es[j]? with
     |some e=>pure (bif ok then .tuple #[e.val,.bool true] else e.val)
     |none=>fail
    |some none=>match zeroOf P et with
     |some z=>pure (bif ok then .tuple #[z,.bool false] else z)
     |none=>fail
    |none=>fail
   else fail
  |_=>fail
 |_,_=>fail
theorem Bi {t:TypeId} {x k x' k':Value} {ok:Bool} (hx:VR E x x') (hk:VR E k k'):au P lo w0 E H (zg P t x k ok:M I Value) (Instr.lookup t x' k' ok) VR:=by
 unfold zg;split
 ·rename_i kt et hu;cases hx;cases hc:rQ P true kt k with
  |false=>exact au.fail
  |true=>
   simp only [cond_true];split
   ·rename_i z hf hz;have hg:=(cU hc default).1;have:=ot hk 3 hg;subst this;have JK:=bT E 3 z (bH hz default).2;have hr:=oo (es':=[]) hf trivial;cases ok with
    |true=>exact au.val ⟨.tuple #[z,.bool false],fun w=>by simp [Instr.lookup,run_underlying hu,(cU hc w).2,hr,(bH hz w).1],VR.pair JK (.bool false)⟩
    |false=>exact au.val ⟨z,fun w=>by simp [Instr.lookup,run_underlying hu,(cU hc w).2,hr,(bH hz w).1],JK⟩
   ·exact au.fail
 ·rename_i kt et n hu;cases hx with
  |map hn=>
   refine au.rd fun ob=>?_
   cases ob with
   |map es clock=>
    cases hc:rQ P es.isEmpty kt k with
    |false=>simp only [hc];exact au.fail
    |true=>
     simp only [hc,cond_true];have hg:=(cU hc default).1;have:=ot hk 3 hg;subst this;split
     ·rename_i j hf;split
      ·rename_i e he;refine au.leaf fun E1 g w hE hR ⟨_,P7⟩=>?_
       obtain⟨cs,h1,h2,h3⟩:=hR.Kl P7 (hE _ _ hn);have Xx:=jI es.toList cs.toList lS fun a c j ha hc'=>(h3 a c j jd (by simpa using hc')).1
       obtain⟨e',Dp,hr⟩:=ua hf Xx w;have hv:=(h3 e e' j he (by simpa using Dp)).2.2;have Km:cs.isEmpty=es.isEmpty:=by simp [Array.isEmpty,h2]
       cases ok with
       |true=>exact⟨.tuple #[e'.val,.bool true],by simp [Instr.lookup,run_underlying hu,cg h1,Km,(cU hc w).2,hr],VR.pair hv (.bool true)⟩
       |false=>exact⟨e'.val,by simp [Instr.lookup,run_underlying hu,cg h1,Km,(cU hc w).2,hr],hv⟩
      ·exact au.fail
     ·rename_i hf;split
      ·rename_i z hz;refine au.leaf fun E1 g w hE hR ⟨_,P7⟩=>?_
       obtain⟨cs,h1,h2,h3⟩:=hR.Kl P7 (hE _ _ hn);have Xx:=jI es.toList cs.toList lS fun a c j ha hc'=>(h3 a c j jd (by simpa using hc')).1
       have hr:=oo hf Xx w;have Km:cs.isEmpty=es.isEmpty:=by simp [Array.isEmpty,h2]
       have JK:=bT E1 3 z (bH hz default).2;cases ok with
       |true=>exact⟨.tuple #[z,.bool false],by simp [Instr.lookup,run_underlying hu,cg h1,Km,(cU hc w).2,hr,(bH hz w).1],VR.pair JK (.bool false)⟩
       |false=>exact⟨z,by simp [Instr.lookup,run_underlying hu,cg h1,Km,(cU hc w).2,hr,(bH hz w).1],JK⟩
      ·exact au.fail
     ·exact au.fail
   |_=>exact au.fail
 ·exact au.fail
def zh (P:Program) (lo:dP) (t:TypeId) (x k v:Value):M I Unit:=match P.underlying t,x with
 |some (.map kt et),.map (some n)=>rd n>>=fun ob=>match ob with
  | .map es clock=>bif rQ P false kt k then match tZ P kt k es.toList with
    |some (some j)=>match es[j]? with
     |some e=>bif Instr.sameBits 10000 e.key k then wr lo n (some (.map (es.setIfInBounds j ⟨k,v,e.born⟩) clock))>>=fun _=>pure () else fail
     |none=>fail
    |some none=>wr lo n (some (.map (es.push ⟨k,v,clock⟩) (clock+1)))>>=fun _=>pure ()
    |none=>fail
   else fail
  |_=>fail
 |_,_=>fail
theorem rR {t:TypeId} {x k v x' k' v':Value} (hx:VR E x x') (hk:VR E k k') (hv:VR E v v'):au P lo w0 E H (zh P lo t x k v:M I Unit) (Instr.mapUpdate t x' k' v') (fun _ _ _=>True):=by
 unfold zh;split
 ·rename_i kt et n hu;cases hx with
  |map hn=>
   refine au.rd fun ob=>?_
   cases ob with
   |map es clock=>
    cases hc:rQ P false kt k with
    |false=>simp only [hc];exact au.fail
    |true=>
     simp only [hc,cond_true];have hg:=(cU hc default).1;have:=ot hk 3 hg;subst this;split
     ·rename_i j hf;split
      ·rename_i e he;cases hsb:Instr.sameBits 10000 e.key k' with
       |false=>exact au.fail
       |true=>
        refine au.wr fun E1 g w hE hR ⟨_,P7⟩ o0 hg0 PG=>?_
        obtain⟨cs,h1,h2,h3⟩:=hR.Kl P7 (hE _ _ hn);have Xx:=jI es.toList cs.toList lS fun a c j ha hc'=>(h3 a c j jd (by simpa using hc')).1
        obtain⟨e',Dp,hr⟩:=ua hf Xx w;have Xy:cs[j]?=some e':=by simpa using Dp
        have hee:=h3 e e' j he Xy;have jJ:(Instr.keyThatStays (((cs[j]?).map (·.key)).getD k') k').run P w=.ok k' w:=by
         simp [Xy,hee.1,Instr.keyThatStays,hsb]
        have afu:cs.modify j (fun e=>{e with key:=k',val:=v'})=cs.setIfInBounds j ⟨k',v',e'.born⟩:=by
         apply Array.ext_getElem?;intro i;rw [Array.getElem?_modify,Array.getElem?_setIfInBounds];by_cases e1:j=i
         ·subst e1;obtain⟨h7,h8⟩:=Array.getElem?_eq_some_iff.1 Xy;simp [h7,h8]
         ·simp [e1]
        refine⟨(),_,_,_,_, ?_,hE _ _ hn,ju (o':=.map (cs.setIfInBounds j ⟨k',v',e'.born⟩) clock) h1,.map clock lS fun a c i ha hc'=>?_,trivial⟩
        ·simp only [Instr.mapUpdate,Sem.run_bind,run_underlying hu,Result.andThen_ok,cg h1,(cU hc w).2,hr,jJ,afu,kU h1]
        ·rw [Array.getElem?_setIfInBounds] at ha hc';by_cases e1:j=i
         ·subst e1;simp only [if_true] at ha hc';split at ha<;>split at hc'<;>first|(cases ha;done)|(cases hc';done)|skip
          cases ha;cases hc';exact⟨rfl,hee.2.1,hv.mono hE⟩
         ·rw [if_neg e1] at ha hc';exact h3 a c i ha hc'
      ·exact au.fail
     ·rename_i hf;refine au.wr fun E1 g w hE hR ⟨_,P7⟩ o0 hg0 PG=>?_
      obtain⟨cs,h1,h2,h3⟩:=hR.Kl P7 (hE _ _ hn);have Xx:=jI es.toList cs.toList lS fun a c j ha hc'=>(h3 a c j jd (by simpa using hc')).1
      have hr:=oo hf Xx w;refine⟨(),_,_,_,_, ?_,hE _ _ hn,ju (o':=.map (cs.push ⟨k',v',clock⟩) (clock+1)) h1,.map _ (by simp [h2]) fun a c i ha hc'=>?_,trivial⟩
      ·simp only [Instr.mapUpdate,Sem.run_bind,run_underlying hu,Result.andThen_ok,cg h1,(cU hc w).2,hr,kU h1]
      ·rw [Array.getElem?_push] at ha hc';rw [←h2] at hc';by_cases e1:i=es.size
       ·rw [if_pos e1] at ha hc';cases ha;cases hc';exact⟨rfl,rfl,hv.mono hE⟩
       ·rw [if_neg e1] at ha hc';exact h3 a c i ha hc'
     ·exact au.fail
   |_=>exact au.fail
  |_=>exact au.fail
 ·exact au.fail
def Xz (P:Program) (t:TypeId) (x:Value):M I Value:=match P.underlying t,x with
 |some .string,.string s=>pure (.int .i64 s.size)
 |some (.array n _),_=>pure (.int .i64 n)
 |some (.slice _),.slice _ n _=>pure (.int .i64 n)
 |some (.map _ _),.map none=>pure (.int .i64 0)
 |some (.map _ _),.map (some k)=>rd k>>=fun ob=>match ob with
  | .map es _=>pure (.int .i64 es.size)
  |_=>fail
 |_,_=>fail
theorem Kn {ts:Array TypeId} {t ty:TypeId} {x x':Value} (ht:ts[0]?=some t) (hx:VR E x x'):au P lo w0 E H (Xz P t x:M I Value) (Builtin.len_ ts ty #[x']) VR:=by
 unfold Xz;split
 ·rename_i s hu;exact Ko
 ·rename_i n e hu;exact au.val ⟨_,fun w=>by simp [Builtin.len_,ht,run_underlying hu,goInt],.int _ _⟩
 ·rename_i e a n c hu;cases hx<;>exact au.val ⟨_,fun w=>by simp [Builtin.len_,ht,run_underlying hu,goInt],.int _ _⟩
 ·rename_i k e hu;exact Ko
 ·rename_i k e n hu;cases hx with
  |map hn=>
   refine au.rd fun ob=>?_
   cases ob with
   |map es clock=>
    refine au.leaf fun E1 g w hE hR ⟨_,P7⟩=>?_
    obtain⟨cs,h1,h2,h3⟩:=hR.Kl P7 (hE _ _ hn);exact⟨_,by simp [Builtin.len_,ht,run_underlying hu,cg h1,goInt,←h2],.int _ _⟩
   |_=>exact au.fail
 ·exact au.fail
def XA (P:Program) (t:TypeId) (x:Value):M I Value:=match P.underlying t,x with
 |some (.slice _),.slice none _ c=>pure (.int .i64 c)
 |some (.slice _),.slice (some ⟨_,_,none⟩) _ c=>pure (.int .i64 c)
 |_,_=>fail
theorem Kq {ts:Array TypeId} {t ty:TypeId} {x x':Value} (ht:ts[0]?=some t) (hx:VR E x x'):au P lo w0 E H (XA P t x:M I Value) (Builtin.cap_ ts ty #[x']) VR:=by
 unfold XA;split
 ·rename_i e n c hu;exact Kr
 ·rename_i e k o n c hu;exact Kr
 ·exact au.fail
def DU (P:Program) (t:TypeId) (x:Value):M I Value:=match P.underlying t,x with
 |some .string,.string s=>new (.stringIter s 0)>>=fun k=>pure (.pointer (some ⟨k,0,none⟩))
 |_,_=>fail
theorem DV {t:TypeId} {x x':Value} (hx:VR E x x'):au P lo w0 E H (DU P t x:M I Value) (Instr.range t x') VR:=by
 unfold DU;split
 ·rename_i s hu;cases hx;exact au.new fun E1 g w k hE hR _ hk=>⟨_,_,0,_,run_range_string w t s hu,hR.alloc _,eB w _,fun i hi=>Below.heap_alloc w _ i hi,.iter s 0,.ptr (r:=0) (by simp [Env.put])⟩
 ·exact au.fail
theorem blt_eq (a b:Nat):Nat.blt a b=decide (a<b):=by
 rw [Bool.eq_iff_iff,decide_eq_true_eq,show Nat.blt a b=Nat.ble (a+1) b from rfl,Nat.ble_eq];exact Iff.rfl
def Ks (lo:dP) (x:Value) (iX:Bool):M I Value:=match x,iX with
 | .pointer (some ⟨k,0,none⟩),true=>rd k>>=fun ob=>match ob with
  | .stringIter s p=>bif Nat.blt p s.size then match Utf8.decode s p with
    |(c,wd)=>wr lo k (some (.stringIter s (p+wd)))>>=fun _=>pure (.tuple #[.bool true,.int .i64 p,.int .i32 c])
   else pure (.tuple #[.bool false])
  |_=>fail
 |_,_=>fail
theorem Rel.iter {g:Nat→Option Obj} {w:World} (h:Rel P lo w0 E g w) {k p:Nat} {s:ByteArray} (hg:g k=some (.stringIter s p)) {b r:Nat} (hE:E k=some (b,r)):w.heap[b]?=some (.stringIter s p):=by
 obtain⟨b',r',co,h1,h2,h3⟩:=h.tie k _ hg;rw [h1] at hE;cases hE;cases h3;exact h2
theorem Ho {x x':Value} {iX:Bool} {ty:TypeId} (hx:VR E x x'):au P lo w0 E H (Ks lo x iX:M I Value) (Instr.next x' iX ty) VR:=by
 unfold Ks;split
 ·rename_i k;cases hx with
  |ptr hk=>
   refine au.rd fun ob=>?_
   cases ob with
   |stringIter s p=>
    cases hb:Nat.blt p s.size with
    |true=>
     have hlt:p<s.size:=by rw [blt_eq] at hb;simpa using hb
     simp only [hb,cond_true];generalize hd:Utf8.decode s p=cw;obtain⟨c,wd⟩:=cw;simp only;refine au.wr fun E1 g w hE hR ⟨_,hg⟩ o0 hg0 PG=>?_
     have h1:=hR.iter hg (hE _ _ hk);refine⟨_,_,_,_,_, ?_,hE _ _ hk,ju (o':=.stringIter s (p+wd)) h1,.iter _ _,.tuple rfl fun a v j ha hv=>?_⟩
     ·simp [Instr.next,getObj,setObj,Sem.run,h1,hlt,hd,goInt]
     ·have:eu 0 a=true:=by
       rcases j with _|_|_|j<;>simp at ha<;>subst ha<;>rfl
      rw [ha] at hv;cases hv;exact bT _ 0 a this
    |false=>
     have hlt:¬p<s.size:=by rw [blt_eq] at hb;simpa using hb
     simp only [hb,cond_false];refine au.leaf fun E1 g w hE hR ⟨_,hg⟩=>?_
     have h1:=hR.iter hg (hE _ _ hk);exact⟨_,by simp [Instr.next,getObj,Sem.run,h1,hlt],bT _ 1 _ rfl⟩
   |_=>exact au.fail
 ·exact au.fail
def bytesOf:List Value→Option (List UInt8)
 |[]=>some []
 | .int .u8 n::l=>match bytesOf l with
  |some r=>some (UInt8.ofNat n.toNat::r)
  |none=>none
 |_::_=>none
def pE (P:Program) (t:TypeId) (x y:Value):Option Bool:=match P.underlying t,x,y with
 |some (.slice _),.slice none _ _,.slice b _ _=>some b.isNone
 |some (.slice _),.slice (some _) _ _,.slice none _ _=>some false
 |some (.map _ _),.map none,.map b=>some b.isNone
 |some (.map _ _),.map (some _),.map none=>some false
 |some (.func _ _ _),.nilFunc,.func _ _ _=>some false
 |some (.func _ _ _),.func _ _ _,.nilFunc=>some false
 |some (.pointer _),.pointer none,.pointer b=>some b.isNone
 |some (.pointer _),.pointer (some _),.pointer none=>some false
 |some (.interface _),.nilIface,.iface _ _=>some false
 |some (.interface _),.iface _ _,.nilIface=>some false
 |_,_,_=>none
theorem Bj {t:TypeId} {x y x' y':Value} {b:Bool} (h:pE P t x y=some b) (hx:VR E x x') (hy:VR E y y') (d:Nat) (w:World):(Op.equalIn (d+1) t x' y').run P w=.ok b w:=by
 unfold pE at h;split at h<;>first|(cases h;done)|skip
 all_goals
  rename_i hu;cases hx<;>cases hy<;>simp at h<;>subst h<;>simp [Op.equalIn,run_underlying hu]
theorem rS {t:TypeId} {x y x' y':Value} {b:Bool} (h:pE P t x y=some b) (hx:VR E x x') (hy:VR E y y') (op:BinOp) (X Y:Operand) (w:World):(eqGuard op t X Y x' y').run P w=.ok () w:=by
 unfold pE at h;split at h<;>first|(cases h;done)|skip
 all_goals
  cases hx<;>cases hy<;>first|(simp at h;done)|(cases op<;>simp [eqGuard])
theorem Hu {t:TypeId} {x y x' y':Value} {b:Bool} (h:pE P t x y=some b) (hx:VR E x x') (hy:VR E y y'):binOp .eql t x' y'=(do pure (.bool (←Op.equal t x' y')):Sem Value)∧binOp .neq t x' y'=(do pure (.bool (!(←Op.equal t x' y'))):Sem Value):=by
 unfold pE at h;split at h<;>first|(cases h;done)|skip
 all_goals
  cases hx<;>cases hy<;>first|exact⟨rfl,rfl⟩|(simp at h;done)
theorem xh {t:TypeId} {x y x' y':Value} {b:Bool} (h:pE P t x y=some b) (hx:VR E x x') (hy:VR E y y') (X Y:Operand) (w:World):
  (do eqGuard .eql t X Y x' y';binOp .eql t x' y':Sem Value).run P w=.ok (.bool b) w∧(do eqGuard .neq t X Y x' y';binOp .neq t x' y':Sem Value).run P w=.ok (.bool (!b)) w:=by
 obtain⟨h1,h2⟩:=Hu h hx hy;have h3:(Op.equal t x' y').run P w=.ok b w:=Bj h hx hy 9999 w;constructor
 ·simp only [Sem.run_bind,rS h hx hy,Result.andThen_ok,h1,h3,Sem.run_pure]
 ·simp only [Sem.run_bind,rS h hx hy,Result.andThen_ok,h2,h3,Sem.run_pure]
end Go.Am
/- A part of the proof. Conditions: none. -/
set_option maxRecDepth 100000
set_option maxHeartbeats 8000000
namespace Go.Am
open Go Go.RowKit
variable {μ:Type} {I:gT μ} {P:Program} {lo:dP} {w0:Bs} {E:Env} {H:(Nat→Option Obj)→Prop}
inductive bB where
 |val (v:Value)
 |panic (v:Value)
 |call (f:FuncId) (args:Array Value)
 |defer (d:Deferred)
 |recover
 |round (k:Nat) (tmps:Array Value) (assign body:Code)
def DR (E:Env) (d d':Deferred):Prop:=(∃f cap cap',d.target=.fn (.func f) cap∧d'.target=.fn (.func f) cap'∧fQ E cap cap'∧fQ E d.args d'.args)∨∃k b q,d.target=.collected k∧d'.target=.collected b∧E k=some (b,q)
def NR (E:Env):bB→Next→Prop
 | .val v,.value v'=>VR E v v'
 | .val v,.skip=>v=undef
 | .call f as,.enter f' cs=>f=f'∧fQ E as cs
 | .defer d,.defer d'=>DR E d d'
 | .recover,.recover=>True
 | .round k ts a b,.round l _ cs a' b'=>a'=a∧b'=b∧(∃q,E k=some (l,q))∧fQ E ts cs
 |_,_=>False
abbrev Ev:=Operand→Option Value
def evT (ev:Ev) (x:Operand):Value:=(ev x).getD undef
def iP (m:M I Value):M I bB:=m>>=fun v=>pure (.val v)
def LH (m:M I Unit):M I bB:=m>>=fun _=>pure (.val undef)
theorem aU {m:M I Value} {c:Sem Value} (h:au P lo w0 E H m c VR):au P lo w0 E H (iP m) (do pure (.value (←c)):Sem Next) NR:=
 au.bind h fun E1 a b hE hab=>au.pure fun E2 Bh=>hab.mono Bh
theorem qQ {m:M I Unit} {c:Sem Unit} (h:au P lo w0 E H m c (fun _ _ _=>True)):au P lo w0 E H (LH m) (do c;pure .skip:Sem Next) NR:=
 au.bind h fun E1 a b hE hab=>au.pure fun E2 Bh=>rfl
def mD (P:Program) (ev:Ev) (o:Oper):M I bB:=
 bif o.op.operands.toList.all (fun x=>match ev x with|some v=>eu 3 v|none=>false) then
  match fe P (execOp (evT ev) o) with
  |some (.value v)=>bif eu 3 v then pure (.val v) else fail
  |_=>fail
 else fail
theorem fX {ev:Ev} {ρ:Operand→Value} {o:Oper} (hρ:∀x v,ev x=some v→VR E v (ρ x)) (hs:∀cs b,o.op≠ .select cs b):au P lo w0 E H (mD P ev o:M I bB) (execOp ρ o) NR:=by
 unfold mD;cases hb:o.op.operands.toList.all (fun x=>match ev x with|some v=>eu 3 v|none=>false) with
 |false=>exact au.fail
 |true=>
  simp only [cond_true];have he:execOp (evT ev) o=execOp ρ o:=execOp_congr o hs fun x hx=>by
   have h1:=List.all_eq_true.1 hb x (by simpa using hx);unfold evT;cases hv:ev x with
   |none=>rw [hv] at h1;cases h1
   |some v=>
    rw [hv] at h1;exact(ot (hρ x v hv) 3 h1).symm
  split
  ·rename_i v hp;cases hg:eu 3 v with
   |false=>exact au.fail
   |true=>
    rw [he] at hp;exact au.leaf fun E1 g w hE _ _=>⟨_,lR hp w,bT E1 3 v hg⟩
  ·exact au.fail
def evs (ev:Ev):List Operand→Option (List Value)
 |[]=>some []
 |x::xs=>match ev x with
  |some v=>match evs ev xs with
   |some vs=>some (v::vs)
   |none=>none
  |none=>none
theorem Gl {ev:Ev} {ρ:Operand→Value} (hρ:∀x v,ev x=some v→VR E v (ρ x)):∀(xs:List Operand) (vs:List Value),evs ev xs=some vs→LR E vs (xs.map ρ)
 |[],vs,h=>by simp [evs] at h;subst h;exact⟨rfl,fun a c j ha=>by simp at ha⟩
 |x::xs,vs,h=>by
  simp only [evs] at h;split at h
  ·rename_i v hv;split at h
   ·rename_i zP wJ;cases h;have ih:=Gl hρ xs zP wJ;refine⟨by simp [ih.1],fun a c j ha hc=>?_⟩;rcases j with _|j
    ·simp at ha hc;subst ha;subst hc;exact hρ x v hv
    ·simp at ha hc;exact ih.2 a c j ha (by simpa using hc)
   ·cases h
  ·cases h
theorem LR.arr {as cs:List Value} (h:LR E as cs):fQ E as.toArray cs.toArray:=⟨by simpa using h.1,fun a c j ha hc=>h.2 a c j jd (by simpa using hc)⟩
theorem fQ.lst {as cs:Array Value} (h:fQ E as cs):LR E as.toList cs.toList:=⟨by simpa using h.1,fun a c j ha hc=>h.2 a c j jd (by simpa using hc)⟩
theorem nA {ev:Ev} {ρ:Operand→Value} (hρ:∀x v,ev x=some v→VR E v (ρ x)) {xs:Array Operand} {vs:List Value} (h:evs ev xs.toList=some vs):fQ E vs.toArray (xs.map ρ):=by
 have:=(Gl hρ _ _ h).arr
 rwa [show((xs.toList.map ρ).toArray:Array Value)=xs.map ρ by rw [←Array.toList_map]] at this
def Iw (ev:Ev):List (Nat × Operand)→Option (List (Nat × Value))
 |[]=>some []
 |(i,x)::xs=>match ev x with
  |some v=>match Iw ev xs with
   |some vs=>some ((i,v)::vs)
   |none=>none
  |none=>none
theorem uN {ev:Ev} {ρ:Operand→Value} (hρ:∀x v,ev x=some v→VR E v (ρ x)):∀(xs:List (Nat × Operand)) (vs:List (Nat × Value)),Iw ev xs=some vs→PR E vs (xs.map fun(i,x)=>(i,ρ x))
 |[],vs,h=>by simp [Iw] at h;subst h;trivial
 |(i,x)::xs,vs,h=>by
  simp only [Iw] at h;split at h
  ·rename_i v hv;split at h
   ·rename_i zP wJ;cases h;exact⟨rfl,hρ x v hv,uN hρ xs zP wJ⟩
   ·cases h
  ·cases h
def evo (ev:Ev):Option Operand→Option (Option Value)
 |none=>some none
 |some x=>match ev x with
  |some v=>some (some v)
  |none=>none
theorem zQ {ev:Ev} {ρ:Operand→Value} (hρ:∀x v,ev x=some v→VR E v (ρ x)) {x:Option Operand} {v:Option Value} (h:evo ev x=some v):XC E v (x.map ρ):=by
 cases x with
 |none=>simp [evo] at h;subst h;trivial
 |some x=>
  simp only [evo] at h;split at h
  ·rename_i u hu;cases h;exact hρ x u hu
  ·cases h
def Yb (P:Program) (src dst:TypeId) (x:Value):M I Value:=match P.underlying src,P.underlying dst,x with
 |some (.slice e),some .string,.slice (some ⟨k,o,_⟩) n _=>match P.underlying e with
  |some (.int .u8)=>rd k>>=fun ob=>match ob with
   | .cells c _ _=>bif Nat.ble (o+n) c.size then match bytesOf ((c.toList.drop o).take n) with
     |some bs=>pure (.string ⟨bs.toArray⟩)
     |none=>fail
    else fail
   |_=>fail
  |_=>fail
 |_,_,_=>fail
theorem pT:∀(l:List Value) (bs:List UInt8),bytesOf l=some bs→∃ns:List Int,l=ns.map (Value.int .u8)∧bs=ns.map fun n=>UInt8.ofNat n.toNat
 |[],bs,h=>by simp [bytesOf] at h;subst h;exact⟨[],rfl,rfl⟩
 |v::l,bs,h=>by
  unfold bytesOf at h;split at h
  ·rename_i h0;cases h0
  ·rename_i n l' h0;cases h0;split at h
   ·rename_i r hr;cases h;obtain⟨ns,rfl,rfl⟩:=pT l r hr;exact⟨n::ns,rfl,rfl⟩
   ·cases h
  ·cases h
theorem fold_push:∀(ns:List Int) (s:ByteArray),ns.foldl (fun r n=>r.push (UInt8.ofNat n.toNat)) s=⟨s.data++(ns.map fun n=>UInt8.ofNat n.toNat).toArray⟩
 |[],s=>by simp
 |n::ns,s=>by
  rw [List.foldl_cons,fold_push ns];congr 1;apply Array.toList_inj.1;simp [ByteArray.push]
theorem LI {src dst:TypeId} {x x':Value} (hx:VR E x x'):au P lo w0 E H (Yb P src dst x:M I Value) (convert src dst x') VR:=by
 unfold Yb;split
 ·rename_i e k o sp n cp hs hd;split
  ·rename_i he;have key:∀(b r c':Nat),E k=some (b,r)→au P lo w0 E H (rd k>>=fun ob=>match ob with
     | .cells c _ _=>bif Nat.ble (o+n) c.size then match bytesOf ((c.toList.drop o).take n) with
       |some bs=>(pure (.string ⟨bs.toArray⟩):M I Value)
       |none=>fail
      else fail
     |_=>fail) (convert src dst (.slice (some ⟨b,o,none⟩) n c')) VR:=fun b r c' hk=>by
    refine au.rd fun ob=>?_
    cases ob with
    |cells c e' fr=>
     cases hb:Nat.ble (o+n) c.size with
     |false=>simp only [hb];exact au.fail
     |true=>
      have hle:=Nat.le_of_ble_eq_true hb;simp only [hb,cond_true];split
      ·rename_i bs UU;obtain⟨ns,h1,rfl⟩:=pT _ _ UU;refine au.leaf fun E1 g w hE hR ⟨_,hg⟩=>?_
       obtain⟨cs,Qy,h2,h3,_,h4⟩:=hR.cells hg (hE _ _ hk);have agc:(cs.toList.drop o).take n=ns.map (Value.int .u8):=by
        rw [←h1];apply List.ext_getElem?;intro j;rw [bO,bO];split
        ·rename_i hj;have hc:c[o+j]?=some c[o+j]:=ai;have hc':cs[o+j]?=some cs[o+j]:=ai;have hv:=h4 _ _ _ hc hc';rw [hc,hc'];have qG:c[o+j]∈(c.toList.drop o).take n:=List.mem_of_getElem? (i:=j) (by rw [bO,if_pos hj,hc]);rw [h1] at qG;obtain⟨m,_,hm⟩:=List.mem_map.1 qG;rw [ot hv 0 (by rw [←hm];rfl)]
        ·rfl
       have hlen:((cs.toList.drop o).take n).length=n:=aV;have hl:=run_loadCells_list (P:=P) w ⟨b,o,none⟩ ((cs.toList.drop o).take n) (fun j v hj=>by
        rw [bO] at hj;split at hj
        ·rw [dH,cell_of h2];exact hj
        ·cases hj)
       rw [hlen,agc] at hl;refine⟨_,by rw [run_convert_bytes_string w src dst e _ n c' hs he hd,run_bytesToString w _ n c' ns hl], ?_⟩;rw [fold_push];have:(ByteArray.empty.data++(ns.map fun n=>UInt8.ofNat n.toNat).toArray)=(ns.map fun n=>UInt8.ofNat n.toNat).toArray:=by
        show(#[]:Array UInt8)++_=_;simp
       rw [this];exact .string _
      ·exact au.fail
    |_=>exact au.fail
   cases hx with
   |slice _ _ hk=>exact key _ _ _ hk
   |wide _ _ hk=>exact key _ _ _ hk
  ·exact au.fail
 ·exact au.fail
end Go.Am