/- A part of the proof. Conditions: none. -/
import Derived.SizedLaws
import Derived.Test.YtbgjanmheagilaaGreatDoorZz
import Derived.Test.YtbgjanmheagilaaGreatDoorNodes
set_option linter.unusedVariables false
set_option linter.unusedSimpArgs false
set_option maxRecDepth 100000
set_option maxHeartbeats 8000000
namespace Go.Nodes
open Go Go.ChangeShapes Go.WideShapes Go.Deep
section
variable {H:Type} {enc:TypeId × Value→H} {P:Program} {w:World} {base:Nat} {spare:Nat→Bool} {held:Bool}
theorem oa {t e:TypeId} {fs:Array Field} {fuel:Nat} {cs:List Value} {x:DataW H × List MemPlace} (ht:P.underlying t=some (.slice e)) (he:P.underlying e=some (.struct fs))
  (yR:oneCellFields P fs=true) (hC:P.cellsOf e=fs.size) (h:DataW.trod enc P w base spare held fuel t cs=some x):
  (cs=[.slice none 0 0]∧x.1=.nil)∨
  ∃(a:Addr) (len cap m:Nat) (D:Nat→DataW H) (rest:List (DataW H)),cs=[.slice (some a) len cap]∧base≤a.block∧len≤cap∧cap≤maxLen∧m=(if spare a.block then cap else len)∧x.1=.slice ((List.range len).map D) rest∧
   ∀i,i<m→∃(n:Nat) (parts:List (DataW H)),D i=.agg parts∧parts.length=fs.size∧∀(j:Nat) (f:Field),fs[j]?=some f→∃(v:Value) (y:DataW H × List MemPlace),w.cell? (a.add (i*fs.size+j))=some v∧DataW.trod enc P w base spare held n f.type [v]=some y∧parts[j]?=some y.1:=by
 rcases open_slice ht h with h0|⟨a,len,cap,m,n,D,Pl,hcs,hb,hl,hm,nc,hx,hi⟩
 ·exact .inl ⟨h0.1,by rw [h0.2]⟩
 ·refine .inr ⟨a,len,cap,m,D,_,hcs,hb,hl,hm,nc,by rw [hx],fun i him=>?_⟩;obtain⟨cs',hc,FO⟩:=hi i him;rw [hC] at hc;obtain⟨ys,n',hn',hy,hlen,DA,hf⟩:=DataW.trod_struct he FO;obtain⟨_,AQ,hat⟩:=World.cells?_some hc;refine⟨n',ys.map (·.1),(Prod.mk.inj hy).1,by simpa using DA,fun j f hj=>?_⟩;obtain⟨ho,hk⟩:=hone_of yR j f hj;have qA:j<fs.size:=(Array.getElem?_eq_some_iff.1 hj).1;have hcell:=hat j qA;have hv:cs'[j]?=some (cs'[j]'aa):=List.getElem?_eq_getElem aa;have h1:=hf j f hj;rw [ho,hk] at h1;have abu:(cs'.drop j).take 1=[cs'[j]'aa]:=by
   rw [List.drop_eq_getElem_cons aa];rfl
  rw [abu] at h1;have JU:ys[j]?=some (ys[j]'aa):=List.getElem?_eq_getElem aa;refine⟨_,_, ?_,h1.trans JU,by rw [List.getElem?_map,JU];rfl⟩;rw [←Go.Deep.add_add,hcell,hv]
end
def PW (ns:List Nd):Prop:=ns.length≤reachBytes∧∀x∈ns,x.text.size≤reachBytes∧x.kids.length≤reachBytes
theorem lI {H:Type} {P:Program} {e:TypeId} {z:Nat} {d:DataW H}:∀{l:List (DataW H)},d∈l→z∈d.weights P e→z∈DataW.weightsAll P e l
 |a::l,h,hz=>by
  simp only [DataW.weightsAll,List.mem_append];rcases List.mem_cons.1 h with rfl|h
  ·exact .inl hz
  ·exact .inr (lI h hz)
section
variable {H:Type} {enc:TypeId × Value→H} {P:Program} {W:World}
end
end Go.Nodes