/- A part of the proof. Conditions: none. -/
import Derived.ProofKit
import Derived.Carry
import Derived.Test.YtbgjanmheagilaaGreatDoorBase
set_option linter.unusedVariables false
set_option linter.unusedSimpArgs false
set_option maxRecDepth 100000
set_option maxHeartbeats 8000000
namespace Go.Proofs.YtbgjanmheagilaaGreatDoor
open Go.ChangeShapes Go.WideShapes Go.ChangeAt Go.RowKit
theorem nW {H:Type} {enc:TypeId × Value→H} {P:Program} (hl:laidOutB P=true) {W W':World} {sp:Nat→Bool}:
  ∀(ts:List TypeId) (vs:List Value) (ds:List (DataW H)) (ps:List MemPlace),ts.all (fun t=>P.readableRec t && decide (t<P.types.size))=true→
   DataW.TrodAll enc P W 0 (fun _=>true) true ts vs ds ps→(∀x∈ps,W.sameAt W' x)→(∀x∈ps,sp x.block=true)→DataW.TrodAll enc P W' 0 sp true ts vs ds ps
 |[],[],[],ps,_,h,_,_=>h
 |t::ts,v::vs,d::ds,ps,hr,h,hs,hp=>by
  obtain⟨p,q,h1,h2,rfl⟩:=h;simp only [List.all_cons,Bool.and_eq_true,decide_eq_true_eq] at hr;exact⟨p,q,WideElems.Trod_stays hl hr.1.1 hr.1.2 h1 (fun x hx=>hs x (List.mem_append_left _ hx)) (fun x hx=>hp x (List.mem_append_left _ hx)),
   nW hl ts vs ds q hr.2 h2 (fun x hx=>hs x (List.mem_append_right _ hx)) (fun x hx=>hp x (List.mem_append_right _ hx)),rfl⟩
 |[],_::_,_,_,_,h,_,_=>h.elim
 |[],[],_::_,_,_,h,_,_=>h.elim
 |_::_,[],_,_,_,h,_,_=>h.elim
 |_::_,_::_,[],_,_,h,_,_=>h.elim
theorem JE {H:Type} {enc:TypeId × Value→H} {P:Program} {f:Func} {s:ChangeSpec} {K:Nat} {W:World} {args:Array Value} {ds gs:List (DataW H)} {before:List MemPlace} {apart fresh handsOn again:Bool}
  (hl:laidOutB P=true) (gQ:f.params.toList.all (fun t=>P.readableRec t && decide (t<P.types.size))=true) (Pv:s.vars=[]) (hres:f.resultTypes=#[4]) (hu4:P.underlying 4=some .bool)
  (hW:DataW.Whole enc P f.params.toList s.vars apart W args.toList ds gs before)
  (hs:(s.fn H ds).results=[.lit (.bool true)]∧(s.fn H ds).args=ds∧(s.fn H ds).vars=[])
  (hc:Calls P K args W fun e W'=>e=.returned (.bool true)∧Below W.heap.size W W'):
  Calls P K args W fun e W'=>∃v,e=.returned v∧s.post enc P f apart fresh handsOn again W args v W':=by
 refine hc.mono fun e W' ⟨he,hb⟩=>⟨.bool true,he, ?_⟩
 have Gx:=hW;obtain⟨p,q,hA,hV,rfl,hfz,Dw⟩:=hW;rw [Pv] at hV;obtain⟨rfl,rfl⟩:=trodVars_none hV;simp only [List.append_nil] at Gx ⊢;have hlt:∀x∈p,x.block<W.heap.size:=Gx.lt;have hold:∀x∈p,(fun b=>decide (b<W.heap.size)) x.block=true:=fun x hx=>by simpa using hlt x hx
 have cM:∀sp:Nat→Bool,(∀x∈p,sp x.block=true)→DataW.TrodAll enc P W' 0 sp true f.params.toList args.toList ds p:=fun sp hsp=>
  nW hl _ _ _ _ gQ hA (fun x hx=>hb.same (hlt x hx)) hsp
 have Dd:∀(b:Nat) (sp:Nat→Bool) (hd:Bool),DataW.TrodAll enc P W' b sp hd f.resultTypes.toList ((Value.bool true).resultList f.resultTypes.size) [.lit (.bool true)] []:=fun b sp hd=>by
  rw [hres];exact trodAll_mk1 (shut_bool hu4 _)
 have ve:∀(j:Nat) (t:TypeId) (r:Value),f.resultTypes[j]?=some t→((Value.bool true).resultList f.resultTypes.size)[j]?=some r→Value.okWide P W' .any 0 t r:=ok_one hres rfl (okWide_bool_mk hu4 _);refine⟨ds,[],p,[],p,[],Gx, ?_, ?_, ?_,World.keptBut_mono (fun x hx=>⟨hx,Or.inr (Or.inl hx)⟩) (hb.frame (·∈p)),fun _=>?_⟩
 ·rw [List.append_nil,hs.1];exact Dd _ _ _
 ·rw [List.append_nil,hs.2.1];exact cM _ hold
 ·rw [List.append_nil,hs.2.2,Pv];rfl
 ·refine⟨ve,[.lit (.bool true)]++ds,[],([]++p)++[],⟨[]++p,[], ?_, ?_,rfl, ?_, ?_⟩, ?_⟩
  ·exact trodAll_append (cM _ (fun _ _=>rfl)) (Dd _ _ _)
  ·rw [Pv];rfl
  ·intro b off hp;have F4:MemPlace.cell b off∈p:=by simpa using hp
   rw [hb.frozen (hlt _ F4)];exact hfz b off (by simpa using F4)
  ·intro ha;simpa using Dw ha
  ·intro x hx _;simpa using hx
end Go.Proofs.YtbgjanmheagilaaGreatDoor