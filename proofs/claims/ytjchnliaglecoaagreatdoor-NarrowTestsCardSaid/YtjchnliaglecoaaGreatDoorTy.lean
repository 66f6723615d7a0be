/- A part of the proof. Conditions: none. -/
import Derived.Test.YtjchnliaglecoaaGreatDoorNodesB
import Derived.Test.YtjchnliaglecoaaGreatDoorDwX
set_option linter.unusedVariables false
set_option linter.unusedSimpArgs false
set_option maxRecDepth 100000
set_option maxHeartbeats 8000000
namespace Go.Nodes
open Go Go.RowKit
def gN {α:Type} (W:World) (n:Nat) (E:List Value→α→Prop) (p:Option Addr) (xs:List α):Prop:=
 xs=[]∨∃b o,p=some ⟨b,o,none⟩∧b<W.heap.size∧∀(i:Nat) (h:i<xs.length),∃vs:List Value,vs.length=n∧(∀(j:Nat) (v:Value),vs[j]?=some v→W.cell? ⟨b,o+i*n+j,none⟩=some v)∧E vs xs[i]
theorem gN.later {α:Type} {W W':World} {n:Nat} {E E':List Value→α→Prop} {p:Option Addr} {xs:List α} (h:gN W n E p xs) (hb:Below W.heap.size W W') (hE:∀vs x,x∈xs→E vs x→E' vs x):gN W' n E' p xs:=by
 rcases h with h|⟨b,o,hp,hl,hc⟩
 ·exact .inl h
 ·refine .inr ⟨b,o,hp,Nat.lt_of_lt_of_le hl hb.size,fun i hi=>?_⟩;obtain⟨vs,h1,h2,h3⟩:=hc i hi;exact⟨vs,h1,fun j v hj=>by rw [←h2 j v hj];simp only [World.cell?,hb.block b hl],hE vs _ (List.getElem_mem hi) h3⟩
theorem gN.at {α:Type} {W:World} {n:Nat} {E:List Value→α→Prop} {p:Option Addr} {xs:List α} (h:gN W n E p xs) {i:Nat} (hi:i<xs.length):∃b o,p=some ⟨b,o,none⟩∧b<W.heap.size∧∃vs:List Value,vs.length=n∧(∀(j:Nat) (v:Value),vs[j]?=some v→W.cell? ⟨b,o+i*n+j,none⟩=some v)∧E vs xs[i]:=by
 rcases h with h|⟨b,o,hp,hl,hc⟩
 ·subst h;simp at hi
 ·exact⟨b,o,hp,hl,hc i hi⟩
end Go.Nodes
