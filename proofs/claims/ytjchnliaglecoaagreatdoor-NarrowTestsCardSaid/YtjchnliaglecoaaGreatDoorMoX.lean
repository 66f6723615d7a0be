/- A part of the proof. Conditions: none. -/
import Derived.Maps.OwnSet
import Derived.Test.YtjchnliaglecoaaGreatDoorZz
import Derived.Test.YtjchnliaglecoaaGreatDoorApX
import Derived.Test.YtjchnliaglecoaaGreatDoorMpX
set_option linter.unusedVariables false
set_option linter.unusedSimpArgs false
set_option maxRecDepth 100000
set_option maxHeartbeats 8000000
namespace Go.Proofs.YtjchnliaglecoaaGreatDoor
open Go Go.RowKit Go.Nodes Go.WideMaps Go.Maps Go.ChangeShapes
structure uB (D:DataW Unit) (l:List (List UInt8)):Prop where
 tidy:Tidy D
 size:Maps.size D≤l.length
 nodup:Maps.size D=l.length↔l.Nodup
 has:∀x,Maps.has D (.string x)=true↔x∈l
theorem xI (x:List UInt8):WideAt.IsKeyLit (.string x):=by unfold WideAt.IsKeyLit;trivial
theorem uB.nil:uB (.map []) []:=⟨tidy_empty,by simp [size_eq],by simp [size_eq],by simp [has_eq]⟩
theorem uB.snoc {D:DataW Unit} {l:List (List UInt8)} (h:uB D l) (x:List UInt8) (d:DataW Unit):uB (D.put (.string x) d) (l++[x]):=by
 have hs:=size_put (k:=.string x) h.tidy d;have h1:=h.size;have h2:=h.nodup;have hx:=h.has x;refine⟨h.tidy.put (xI x) d, ?_, ?_,fun y=>?_⟩
 ·rw [hs];split<;>simp<;>omega
 ·rw [hs,List.nodup_append];simp only [List.length_append,List.length_cons,List.length_nil];by_cases hm:x∈l
  ·rw [if_pos (hx.2 hm)];constructor
   ·intro;omega
   ·rintro⟨_,_,h3⟩;exact absurd rfl (h3 x hm x ak)
  ·rw [if_neg (fun h=>hm (hx.1 h))];constructor
   ·intro h3;exact⟨h2.1 af,by simp,fun a ha b hb e=>by simp at hb;subst hb e;exact hm ha⟩
   ·rintro⟨h3,_,_⟩;have:=h2.2 h3;omega
 ·by_cases e:y=x
  ·subst e;rw [has_put_same h.tidy.isMap (xI y)];simp
  ·rw [has_put_other (fun h=>e (by cases h;rfl)),h.has y];simp [e]
def El (w:World) (p q:Option Addr) (n:Nat) (ts:List ByteArray):Prop:=∀(i:Nat) (t:ByteArray),ts[i]?=some t→
 ∃b o bq oq kk:Nat,p=some ⟨b,o,none⟩∧q=some ⟨bq,oq,none⟩∧b<w.heap.size∧bq<w.heap.size∧kk<n∧w.cell? ⟨bq,oq+i,none⟩=some (.int .i64 kk)∧w.cell? ⟨b,o+kk*4+1,none⟩=some (.string t)
theorem abn (s:ByteArray) (hs:s.size≤20000) (w:World):Calls Tryz.prog 188 #[.string s] w fun e w'=>e=.returned (.string s)∧w=w':=by
 go_enter Tryz.func188,Tryz.ntmps188;go_wp2;go_ret;exact⟨rfl,rfl⟩
theorem KJ (w:World) (p q:Option Addr) (n c m d:Nat) (hn:(n:Int)≤5000) (hm:(m:Int)≤20000) (ts:List ByteArray) (vT:ts.length=m) (hk:El w p q n ts) (hc:∀s∈ts,s.size≤20000):
  Calls Tryz.prog 187 #[.slice p n c,.slice q m d,.func (.func 188) #[] #[]] w fun e w'=>e=.returned (.bool (decide ((ts.map (fun s:ByteArray=>s.data.toList)).Nodup)))∧Below w.heap.size w w':=by
 have yu:= @run_makeMap Tryz.prog;have Hk:=hid hk;have ZH:=hid vT;have Hc:=hid hc;clear hk vT hc;go_enter Tryz.func187,Tryz.ntmps187;go_wp2;go_loopw [13] (fun i wr=>∃(k:Nat) (D:DataW Unit),k≤m∧i=.int .i64 k∧wr.ownsMap Tryz.prog 9 (plainElem Tryz.prog 3) w.heap.size k D∧Below w.heap.size w wr∧Hid (uB D ((ts.map (fun s:ByteArray=>s.data.toList)).take k)))
  (fun i _=>m - (intOf i).toNat)
 case atStart=>exact⟨0,_,Nat.zero_le _,rfl,World.ownsMap_made _ _ _ _,eK,hid uB.nil⟩
 case round=>
  obtain⟨k,D,hk,rfl,hown,ct,hS⟩:=hrel;by_cases hlt:k<m
  ·have VU:=trivial;exact afW
  ·obtain rfl:k=m:=by omega
   have JQ:=hS.out;rw [List.take_of_length_le (by rw [List.length_map,ZH.out];exact Nat.le_refl _)] at JQ;have hres:Hid ((((Maps.size D:Nat):Int)==((k:Nat):Int))=decide ((ts.map (fun s:ByteArray=>s.data.toList)).Nodup)):=hid (by
    have h3:=JQ.nodup;rw [List.length_map,ZH.out] at h3;by_cases hd:(ts.map (fun s:ByteArray=>s.data.toList)).Nodup
    ·rw [decide_eq_true hd,h3.2 hd];simp
    ·rw [decide_eq_false hd];cases e:(((Maps.size D:Nat):Int)==((k:Nat):Int)) with
     |false=>rfl
     |true=>exact absurd (h3.1 (by have:=eq_of_beq e;omega)) hd)
   exact Ur
theorem abp (s:ByteArray) (hs:0<s.size∧s.size≤20000) (w:World):Calls Tryz.prog 189 #[.string s] w fun e w'=>e=.returned (.string (s.extract 0 1))∧w=w':=by
 obtain⟨h0,h1⟩:=hs;go_enter Tryz.func189,Tryz.ntmps189;go_wp2;go_ret;exact⟨rfl,rfl⟩
theorem KL (w:World) (p q:Option Addr) (n c m d:Nat) (hn:(n:Int)≤5000) (hm:(m:Int)≤20000) (ts:List ByteArray) (vT:ts.length=m) (hk:El w p q n ts) (hc:∀s∈ts,0<s.size∧s.size≤20000):
  Calls Tryz.prog 187 #[.slice p n c,.slice q m d,.func (.func 189) #[] #[]] w fun e w'=>e=.returned (.bool (decide ((ts.map (fun s:ByteArray=>s.data.toList.take 1)).Nodup)))∧Below w.heap.size w w':=by
 have yu:= @run_makeMap Tryz.prog;have Hk:=hid hk;have ZH:=hid vT;have Hc:=hid hc;clear hk vT hc;go_enter Tryz.func187,Tryz.ntmps187;go_wp2;go_loopw [13] (fun i wr=>∃(k:Nat) (D:DataW Unit),k≤m∧i=.int .i64 k∧wr.ownsMap Tryz.prog 9 (plainElem Tryz.prog 3) w.heap.size k D∧Below w.heap.size w wr∧Hid (uB D ((ts.map (fun s:ByteArray=>s.data.toList.take 1)).take k)))
  (fun i _=>m - (intOf i).toNat)
 case atStart=>exact⟨0,_,Nat.zero_le _,rfl,World.ownsMap_made _ _ _ _,eK,hid uB.nil⟩
 case round=>
  obtain⟨k,D,hk,rfl,hown,ct,hS⟩:=hrel;by_cases hlt:k<m
  ·have VV:=trivial;exact afW
  ·obtain rfl:k=m:=by omega
   have JQ:=hS.out;rw [List.take_of_length_le (by rw [List.length_map,ZH.out];exact Nat.le_refl _)] at JQ;have hres:Hid ((((Maps.size D:Nat):Int)==((k:Nat):Int))=decide ((ts.map (fun s:ByteArray=>s.data.toList.take 1)).Nodup)):=hid (by
    have h3:=JQ.nodup;rw [List.length_map,ZH.out] at h3;by_cases hd:(ts.map (fun s:ByteArray=>s.data.toList.take 1)).Nodup
    ·rw [decide_eq_true hd,h3.2 hd];simp
    ·rw [decide_eq_false hd];cases e:(((Maps.size D:Nat):Int)==((k:Nat):Int)) with
     |false=>rfl
     |true=>exact absurd (h3.1 (by have:=eq_of_beq e;omega)) hd)
   exact Ur
end Go.Proofs.YtjchnliaglecoaaGreatDoor

/- A part of the proof. Conditions: none. -/
set_option maxRecDepth 100000
set_option maxHeartbeats 8000000
namespace Go.Proofs.YtjchnliaglecoaaGreatDoor
open Go Go.RowKit Go.Nodes
theorem SQ {a b:Int} (h:a≠b):(a !=b)=true:=by simp [bne,cW h]
@[reducible] def LA (x : Nd) : Value := .agg #[.int .i64 x.kind, .string x.text, .slice x.kp x.kids.length x.aP, .int .i64 x.place]
theorem JZ (w:World) (p:Option Addr) (L c:Nat) (x:Nd) (hk:x.kind≠1∧x.kind≠3∧x.kind≠6∧x.kind≠7∧x.kind≠21∧x.kind≠32):
  Calls Tryz.prog 142 #[.slice p L c,LA x] w fun e w'=>e=dI true∧Below w.heap.size w w':=by
 have e1:=cW hk.1;have e2:=cW hk.2.1;have e3:=cW hk.2.2.1;have e4:=cW hk.2.2.2.1;have e5:=cW hk.2.2.2.2.1;have e6:=cW hk.2.2.2.2.2;obtain⟨kx,text,kp,aP,kids,place⟩:=x;simp only at e1 e2 e3 e4 e5 e6;clear hk;generalize kids.length=q;go_enter Tryz.func142,Tryz.ntmps142;exact SR
theorem J0 (w:World) (p:Option Addr) (c:Nat) (ns:List Nd) (hL:(ns.length:Int)≤5000) (ha:ay w p ns) (n:Nat) (hn:n<ns.length) (text:ByteArray) (kp:Option Addr) (aP:Nat) (kids:List Int) (place:Int) (hf:dW w kp kids) (cO:(kids.length:Int)≤20000) (gy:∀k∈kids,0≤k∧k<n):
  Calls Tryz.prog 142 #[.slice p ns.length c,LA ⟨3,text,kp,aP,kids,place⟩] w fun e w'=>e=dI (kids.dropLast.all (dU ns))∧Below w.heap.size w w':=by
 have ve:=hid gy;have Hf:=hid hf;have Ha:=hid ha;have hns:ns.length≤5000:=af;obtain⟨L,CR⟩:∃L,L=ns.length:=⟨_,rfl⟩;rw [←CR] at hL hns ⊢;have HL:=hid CR;obtain⟨q,hq⟩:∃q,q=kids.length:=⟨_,rfl⟩;unfold LA;simp only;rw [←hq] at cO ⊢;have Hq:=hid hq;clear gy hf ha CR hq;go_enter Tryz.func142,Tryz.ntmps142;go_wp2;go_loopw [14] (fun iv wr=>∃(j:Nat) (g:gQ),iv=.int .i64 j∧j≤q∧wr=grow (w.alloc (.cells #[.int .i64 3,.string text,.slice kp q aP,.int .i64 place] 56)) g∧Hid ((kids.dropLast.drop j).all (dU ns)=kids.dropLast.all (dU ns))) (fun iv _=>q - (intOf iv).toNat)
 case atStart=>exact⟨0,_,rfl,by omega,(eZ _).symm,rfl⟩
 case round=>
  obtain⟨j,g,rfl,hj,rfl,hR⟩:=hrel;by_cases hjq:j<q
  ·have pE:j<kids.length:=by have:=Hq.out;omega
   rcases Hf.out with ix|⟨bk,ok,eO,bO,eA⟩
   ·subst ix;simp at pE
   subst eO;replace eA:=eA j pE;have dA:=ve.out kids[j] (List.getElem_mem pE);have j0:(0:Int)≤(j:Int):=af;have j1:(j:Int)<(q:Int):=af;by_cases K8:j+1<q
   ·have hd:=vV kids j p9;have hr:=hR.out;rw [hd,List.all_cons] at hr;obtain⟨z,hz⟩:∃z:Nat,kids[j]=(z:Int):=⟨(kids[j]).toNat,by omega⟩;rw [hz] at hr dA eA;have hzl:z<ns.length:=af;obtain⟨b2,o2,Aj,hb2,hx2,hf2,d0,d1,d2,d3⟩:=bh Ha.out hzl;subst Aj;have hka:=aL hx2;have hP:dU ns (z:Int)=decide (ns[z].kind≠10∧ns[z].kind≠11):=by unfold dU;rw [hka]
    rw [hP] at hr;have z0:(0:Int)≤(z:Int):=af;have z1:(z:Int)<(L:Int):=nw;have j2:=cW (show(j:Int)≠(q:Int) - 1 by omega);have Hr:=hid hr;clear hR hr hd hx2 hf2 hka hP hz pE d1 d2 d3;generalize ns[z]=y at*;generalize y.kind=ky at*;by_cases SS:ky=10
    ·have HR:Hid (kids.dropLast.all (dU ns)=false):=hid (by rw [←Hr.out,SS];rfl);subst SS;exact SU
    ·have arl:=SQ SS;by_cases NQ:ky=11
     ·have HR:Hid (kids.dropLast.all (dU ns)=false):=hid (by rw [←Hr.out,NQ];rfl);subst NQ;exact SU
     ·have arn:=SQ NQ;have HR:Hid ((kids.dropLast.drop (j+1)).all (dU ns)=kids.dropLast.all (dU ns)):=hid (by
       rw [←Hr.out,decide_eq_true (⟨SS,NQ⟩:ky≠10∧ky≠11),Bool.true_and])
      clear Hr SS NQ;go_wp2_with (go_at_call 139;((with_reducible refine(eM _).mono ?_));rintro e w' ⟨rfl,hw⟩;rw [hw];clear hw w');go_roundw
      case rel=>exact⟨j+1,_,by go_num,by omega,rfl,HR⟩
      case measure=>simp [intOf];omega
   ·have hd:=gz kids j p9;have xy:=gz kids (j+1) p9;have hr:=hR.out;rw [hd] at hr;have Hr:Hid ((kids.dropLast.drop (j+1)).all (dU ns)=kids.dropLast.all (dU ns)):=hid (by rw [xy];exact hr);have j2:((j:Int)==(q:Int) - 1)=true:=bt;generalize kids[j]=u at*;clear hR hr hd xy;go_wp2_with (go_at_call 139;((with_reducible refine(eM _).mono ?_));rintro e w' ⟨rfl,hw⟩;rw [hw];clear hw w');go_roundw
    case rel=>exact⟨j+1,_,by go_num,by omega,rfl,Hr⟩
    case measure=>simp [intOf];omega
  ·obtain rfl:j=q:=by omega
   have hr:=hR.out;rw [gz kids j p9] at hr;have Hr:=hid (show kids.dropLast.all (dU ns)=true from hr.symm);have j1:¬(j:Int)<(j:Int):=af;clear hR hr;go_wp2;go_end0;exact adV
end Go.Proofs.YtjchnliaglecoaaGreatDoor
