/- A part of the proof. Conditions: none. -/
import Derived.Test.YtjchnliaglecoaaGreatDoorZz
import Derived.Test.YtjchnliaglecoaaGreatDoorRztX
import Derived.Test.YtjchnliaglecoaaGreatDoorPiX
set_option linter.unusedVariables false
set_option linter.unusedSimpArgs false
set_option maxRecDepth 100000
set_option maxHeartbeats 8000000
namespace Go.Proofs.YtjchnliaglecoaaGreatDoor
open Go Go.RowKit Go.Nodes Go.WideShapes Go.ChangeShapes
set_option maxRecDepth 100000
theorem c4b:Tryz.prog.cellsOf 4=1:=by kernel_rfl
theorem c25:Tryz.prog.cellsOf 25=1:=by kernel_rfl
theorem c26:Tryz.prog.cellsOf 26=1:=by kernel_rfl
theorem ak5:Tryz.prog.cellsOf 114=4:=by kernel_rfl
theorem c28:Tryz.prog.cellsOf 28=4:=by kernel_rfl
theorem apO:1≤Tryz.prog.bytesOf 114:=by decide+kernel
theorem b3:1≤Tryz.prog.bytesOf 3:=by decide+kernel
section
variable {H:Type} {enc:TypeId × Value→H} {W:World} {P:Program}
theorem Ld {t e:TypeId} {fuel:Nat} {p:Option Addr} {n c:Nat} {x:DataW H × List MemPlace} (ht:P.underlying t=some (.slice e)) (hB:1≤P.bytesOf e)
  (h:DataW.trod enc P W 0 (fun _=>true) true fuel t [.slice p n c]=some x) (hw:∀z∈x.1.weights P t,z≤reachBytes):n≤reachBytes:=by
 rcases DataW.trod_slice ht h with⟨h1,_⟩|⟨a,len,cap,elems,rest,m,hfu,hcs,hx,_,hle,hm,hlen,hel,_⟩
 ·simp at h1;omega
 ·have h2:=hw ((elems.length+rest.length)*P.bytesOf e) (by
   rw [hx];simp only [DataW.weights,ht,List.length_map];exact List.mem_cons_self)
  simp at hcs;have h3:n*1≤(elems.length+rest.length)*P.bytesOf e:=Nat.mul_le_mul af hB;omega
theorem XO {m:Nat} {cs:List Value} {y:DataW H × List MemPlace} (h:DataW.trod enc Tryz.prog W 0 (fun _=>true) true m 114 cs=some y) (hw:∀z∈y.1.weights Tryz.prog 114,z≤reachBytes):∃x:Vr,vrE cs x:=by
 obtain⟨n,rfl,hl,hf⟩:=Bp Tryz.underlying114 h hw;rw [ak5] at hl;obtain⟨v0,v1,v2,v3,rfl⟩:∃v0 v1 v2 v3,cs=[v0,v1,v2,v3]:=by
  exact PK
 obtain⟨y0,h0,w0⟩:=hf 0 _ rfl;obtain⟨y1,h1,w1⟩:=hf 1 _ rfl;obtain⟨y2,h2,w2⟩:=hf 2 _ rfl;obtain⟨y3,h3,w3⟩:=hf 3 _ rfl;replace h0:DataW.trod enc Tryz.prog W 0 (fun _=>true) true n 3 (([v0,v1,v2,v3].drop 0).take (Tryz.prog.cellsOf 3))=some y0:=h0;replace h1:DataW.trod enc Tryz.prog W 0 (fun _=>true) true n 3 (([v0,v1,v2,v3].drop 1).take (Tryz.prog.cellsOf 3))=some y1:=h1;replace h2:DataW.trod enc Tryz.prog W 0 (fun _=>true) true n 4 (([v0,v1,v2,v3].drop 2).take (Tryz.prog.cellsOf 4))=some y2:=h2;replace h3:DataW.trod enc Tryz.prog W 0 (fun _=>true) true n 4 (([v0,v1,v2,v3].drop 3).take (Tryz.prog.cellsOf 4))=some y3:=h3;rw [c3] at h0 h1;rw [c4b] at h2 h3;obtain⟨k0,e0,_,_⟩:=DataW.trod_int Tryz.underlying3 h0;obtain⟨k1,e1,_,_⟩:=DataW.trod_int Tryz.underlying3 h1;obtain⟨k2,e2,_⟩:=DataW.trod_bool Tryz.underlying4 h2;obtain⟨k3,e3,_⟩:=DataW.trod_bool Tryz.underlying4 h3;simp at e0 e1 e2 e3;subst e0 e1 e2 e3;exact⟨⟨k0,k1,k2,k3⟩,rfl⟩
theorem yh {m:Nat} {v:Value} {y:DataW H × List MemPlace} (h:DataW.trod enc Tryz.prog W 0 (fun _=>true) true m 26 [v]=some y) (hw:∀z∈y.1.weights Tryz.prog 26,z≤reachBytes):
  ∃l:List Int,(∃p c,v=.slice p l.length c∧gN W 1 (CW .i64) p l)∧l.length≤maxLen∧l.length≤reachBytes:=by
 obtain⟨p,c,l,rfl,l1,hn⟩:=Lf (CW .i64) Tryz.underlying26 c3 aj h hw (fun m cs y _ h hz=>by
  obtain⟨k,hk,_,_⟩:=DataW.trod_int Tryz.underlying3 h;exact⟨k,hk⟩)
 exact⟨l,⟨p,c,rfl,hn⟩,l1,Ld Tryz.underlying26 b3 h hw⟩
theorem PL (fuel:Nat) (cs:List Value) (y:DataW H × List MemPlace) (h:DataW.trod enc Tryz.prog W 0 (fun _=>true) true fuel 28 cs=some y) (hw:∀z∈y.1.weights Tryz.prog 28,z≤reachBytes):
  ∃v0 v1 v2 v3 s,cs=[v0,v1,v2,v3]∧nc W v0 v1 v2 v3 s∧(s.vars.length≤reachBytes∧s.uses.length≤reachBytes∧s.funcs.length≤reachBytes∧s.cF.length≤reachBytes):=by
 obtain⟨n,rfl,hl,hf⟩:=Bp Tryz.underlying28 h hw;rw [c28] at hl;obtain⟨v0,v1,v2,v3,rfl⟩:∃v0 v1 v2 v3,cs=[v0,v1,v2,v3]:=by
  exact PK
 obtain⟨y0,h0,w0⟩:=hf 0 _ rfl;obtain⟨y1,h1,w1⟩:=hf 1 _ rfl;obtain⟨y2,h2,w2⟩:=hf 2 _ rfl;obtain⟨y3,h3,w3⟩:=hf 3 _ rfl;replace h0:DataW.trod enc Tryz.prog W 0 (fun _=>true) true n 25 (([v0,v1,v2,v3].drop 0).take (Tryz.prog.cellsOf 25))=some y0:=h0;replace h1:DataW.trod enc Tryz.prog W 0 (fun _=>true) true n 26 (([v0,v1,v2,v3].drop 1).take (Tryz.prog.cellsOf 26))=some y1:=h1;replace h2:DataW.trod enc Tryz.prog W 0 (fun _=>true) true n 26 (([v0,v1,v2,v3].drop 2).take (Tryz.prog.cellsOf 26))=some y2:=h2;replace h3:DataW.trod enc Tryz.prog W 0 (fun _=>true) true n 26 (([v0,v1,v2,v3].drop 3).take (Tryz.prog.cellsOf 26))=some y3:=h3;replace w0:∀z∈y0.1.weights Tryz.prog 25,z≤reachBytes:=w0;replace w1:∀z∈y1.1.weights Tryz.prog 26,z≤reachBytes:=w1;replace w2:∀z∈y2.1.weights Tryz.prog 26,z≤reachBytes:=w2;replace w3:∀z∈y3.1.weights Tryz.prog 26,z≤reachBytes:=w3;rw [c25] at h0;rw [c26] at h1 h2 h3;obtain⟨p,c,xs,e0,l0,hx⟩:=Lf vrE Tryz.underlying25 ak5 aj h0 w0 (fun m cs y _ h hz=>XO h hz);have e0':v0=.slice p xs.length c:=e0;subst e0';obtain⟨l1,a1,b1,d1⟩:=yh h1 w1;obtain⟨l2,a2,b2,d2⟩:=yh h2 w2;obtain⟨l3,a3,b3,d3⟩:=yh h3 w3;exact⟨_,v1,v2,v3,⟨xs,l1,l2,l3,[],[],0,0⟩,rfl,⟨⟨p,c,rfl,hx⟩,a1,a2,a3,l0,b1,b2,b3⟩,Ld Tryz.underlying25 apO h0 w0,d1,d2,d3⟩
theorem CH {v:Value} {d:DataW H} {pl:List MemPlace} {r:Reach} {b0:Nat} (hv:Value.okWide Tryz.prog W r b0 28 v) (h:DataW.Trod enc Tryz.prog W 0 (fun _=>true) true 28 v d pl) (hw:∀z∈d.weights Tryz.prog 28,z≤reachBytes):
  ∃v0 v1 v2 v3 s,v=.agg #[v0,v1,v2,v3]∧nc W v0 v1 v2 v3 s∧(s.vars.length≤reachBytes∧s.uses.length≤reachBytes∧s.funcs.length≤reachBytes∧s.cF.length≤reachBytes):=by
 obtain⟨cs,rfl,hsz⟩:=okWide_struct Tryz.underlying28 hv;obtain⟨l⟩:=cs;obtain⟨fuel,hf⟩:=h;obtain⟨v0,v1,v2,v3,s,h1,h2,h3⟩:=PL fuel l _ hf hw;replace h1:l=[v0,v1,v2,v3]:=h1;subst h1;exact⟨v0,v1,v2,v3,s,rfl,h2,h3⟩
end
end Go.Proofs.YtjchnliaglecoaaGreatDoor
