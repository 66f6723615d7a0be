/- A part of the proof. Conditions: none. -/
import Derived.OpenShut
import Derived.Test.YtjchnliaglecoaaGreatDoorZz
import Derived.Test.YtjchnliaglecoaaGreatDoorTk
import Derived.Test.YtjchnliaglecoaaGreatDoorLift
import Derived.ProofKit
import Derived.Test.YtjchnliaglecoaaGreatDoorProg
set_option linter.unusedVariables false
set_option linter.unusedSimpArgs false
set_option maxRecDepth 100000
set_option maxHeartbeats 8000000
namespace Go.Proofs.YtjchnliaglecoaaGreatDoor
open Go Go.RowKit Go.Nodes Go.WideShapes Go.ChangeShapes Go.Deep
section
variable {H:Type} {enc:TypeId × Value→H} {P:Program} {W:World}
theorem Lf {α:Type} {t e:TypeId} {fuel n:Nat} {v:Value} {x:DataW H × List MemPlace} (E:List Value→α→Prop) (ht:P.underlying t=some (.slice e)) (hc:P.cellsOf e=n) (hn:0<n)
  (h:DataW.trod enc P W 0 (fun _=>true) true fuel t [v]=some x) (hw:∀z∈x.1.weights P t,z≤reachBytes)
  (hE:∀m cs y,m<fuel→DataW.trod enc P W 0 (fun _=>true) true m e cs=some y→(∀z∈y.1.weights P e,z≤reachBytes)→∃a,E cs a):
  ∃p cap xs,v=.slice p xs.length cap∧xs.length≤maxLen∧gN W n E p xs:=by
 rcases DataW.trod_slice ht h with⟨h1,_⟩|⟨a,len,cap,elems,rest,m,hfu,hcs,hx,_,hle,hm,hlen,hel,_⟩
 ·simp at h1;subst h1;exact⟨none,0,[],rfl,by simp,.inl rfl⟩
 ·simp at hcs;subst hcs;have one:∀i,i<len→∃(cs:List Value) (y:α),cs.length=n∧(∀j,j<n→W.cell? ((a.add (i*n)).add j)=cs[j]?)∧E cs y:=fun i hi=>by
   have h1:=hel i hi;rw [List.getElem?_eq_getElem af,hc] at h1;obtain⟨cs,h2,h3⟩:=Option.bind_eq_some_iff.1 h1;obtain⟨_,Ai,hat⟩:=World.cells?_some h2;obtain⟨y,hy⟩:=hE m cs _ af h3 (fun z hz=>by
    refine hw z ?_;rw [hx];simp only [DataW.weights,ht,List.mem_cons,List.mem_append];right;left;exact k9 (List.mem_map.2 ⟨_,List.getElem_mem af,rfl⟩) hz)
   exact⟨cs,y,Ai,hat,hy⟩
  by_cases h0:len=0
  ·subst h0;exact⟨some a,cap,[],rfl,by simp,.inl rfl⟩
  ·obtain⟨cs0,y0,l0,c0,_⟩:=one 0 af;have c00:=c0 0 hn;rw [List.getElem?_eq_getElem af] at c00;have hs:=World.cell?_spot c00;obtain⟨b,o,sp⟩:=a;simp [Addr.add] at hs;subst hs;have hb:=World.block_lt_of_cell? _ _ c00
   let f:Nat→α:=fun i=>if h:i<len then Classical.choose (Classical.choose_spec (one i h)) else y0
   refine⟨some ⟨b,o,none⟩,cap,(List.range len).map f,by simp,by simp;omega,.inr ⟨b,o,rfl,by simpa [Addr.add] using hb,fun i hi=>?_⟩⟩;have xe:i<len:=rZ;have hsp:=Classical.choose_spec (Classical.choose_spec (one i xe));refine⟨Classical.choose (one i xe),hsp.1,fun j v hj=>?_, ?_⟩
   ·have hj2:j<n:=by rw [←hsp.1];exact(List.getElem?_eq_some_iff.1 hj).1
    have:=hsp.2.1 j hj2;rw [hj,tK rfl,tK rfl] at this;exact this
   ·have:((List.range len).map f)[i]=Classical.choose (Classical.choose_spec (one i xe)):=by
     simp only [List.getElem_map,List.getElem_range,f,dif_pos xe]
    rw [this];exact hsp.2.2
theorem Bp {t:TypeId} {fs:Array Field} {fuel:Nat} {cs:List Value} {x:DataW H × List MemPlace} (ht:P.underlying t=some (.struct fs)) (h:DataW.trod enc P W 0 (fun _=>true) true fuel t cs=some x) (hw:∀z∈x.1.weights P t,z≤reachBytes):
  ∃n,fuel=n+1∧cs.length=P.cellsOf t∧∀(i:Nat) (f:Field),fs[i]?=some f→∃y,DataW.trod enc P W 0 (fun _=>true) true n f.type ((cs.drop f.offset).take (P.cellsOf f.type))=some y∧∀z∈y.1.weights P f.type,z≤reachBytes:=by
 obtain⟨xs,n,h1,hx,h2,h3,h4⟩:=DataW.trod_struct ht h;refine⟨n,h1,h2,fun i f hf=>?_⟩;have hi:i<fs.size:=(Array.getElem?_eq_some_iff.1 hf).1;refine⟨_,(h4 i f hf).trans (List.getElem?_eq_getElem af),fun z hz=>hw z ?_⟩;rw [hx];simp only [DataW.weights,ht];refine DataW.weights_mem_each (j:=i) ?_ ?_ z hz
 ·rw [List.getElem?_map];simp [hf]
 ·rw [List.getElem?_map,List.getElem?_eq_getElem af];rfl
end
end Go.Proofs.YtjchnliaglecoaaGreatDoor

/- A part of the proof. Conditions: none. -/
set_option maxRecDepth 100000
set_option maxHeartbeats 8000000
namespace Go.Proofs.YtjchnliaglecoaaGreatDoor
open Go Go.RowKit Go.Nodes Go.WideShapes Go.ChangeShapes
set_option maxRecDepth 100000
theorem c3:Tryz.prog.cellsOf 3=1:=by kernel_rfl
theorem c9:Tryz.prog.cellsOf 9=1:=by kernel_rfl
section
variable {H:Type} {enc:TypeId × Value→H} {W:World}
end
end Go.Proofs.YtjchnliaglecoaaGreatDoor
