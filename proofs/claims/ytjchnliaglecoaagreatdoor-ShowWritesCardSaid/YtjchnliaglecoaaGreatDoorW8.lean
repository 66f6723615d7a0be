/- A part of the proof. Conditions: none. -/
import Derived.Test.YtjchnliaglecoaaGreatDoorZz
import Derived.Test.YtjchnliaglecoaaGreatDoorQx
import Derived.Test.YtjchnliaglecoaaGreatDoorBqX
set_option linter.unusedVariables false
set_option linter.unusedSimpArgs false
set_option maxRecDepth 100000
set_option maxHeartbeats 8000000
namespace Go.Proofs.YtjchnliaglecoaaGreatDoor
open Go Go.RowKit Go.Nodes Go.Am
theorem vz {w w':World} {B b:Nat} {co:Obj} {v:Value} {n:Nat} {xs:List Value} (h:w.ownsRow B 5 1 v n xs) (hT:ek b co w w') (hb:∀cur,w.heap[b]?≠some (.cells cur 5 (0,0))):w'.ownsRow B 5 1 v n xs:=by
 refine⟨h.1, ?_⟩;rcases h.2 with h1|⟨g,cap,cur,h1,h2,h3,h4⟩
 ·exact .inl h1
 ·exact .inr ⟨g,cap,cur,h1,h2,by rw [hT.other g (fun e=>hb cur (e ▸ h3))];exact h3,h4⟩
theorem ye {w:World} {B b:Nat} {v:Value} {n:Nat} {xs:List Value} {cs:Array Value} {t:TypeId} (h:w.ownsRow B 5 1 v n xs) (hb:w.heap[b]?=some (.cells cs t (0,0))) (ht:t≠5):v.ownBlock≠some b:=by
 intro e;rcases h.2 with⟨rfl,_⟩|⟨g,cap,cur,rfl,_,h3,_⟩
 ·simp [Value.ownBlock] at e
 ·simp [Value.ownBlock] at e;subst e;rw [hb] at h3;cases h3;exact ht rfl
theorem IE {w w':World} {B:Nat} {v:Value} {n:Nat} {xs:List Value} (h:w.ownsRow B 5 1 v n xs) (hb:Below w.heap.size w w'):w'.ownsRow B 5 1 v n xs:=by
 refine⟨h.1, ?_⟩;rcases h.2 with h1|⟨g,cap,cur,h1,h2,h3,h4⟩
 ·exact .inl h1
 ·exact Km
theorem mI {w w':World} {b:Nat} {o:Obj} (h:w.heap[b]?=some o) (hb:Below w.heap.size w w'):w'.heap[b]?=some o:=by
 rw [hb.block b (Array.getElem?_eq_some_iff.1 h).1];exact h
theorem iD {W0 w w':World} {b:Nat} {co:Obj} (h:Below W0.heap.size W0 w) (hT:ek b co w w') (hb:W0.heap.size≤b):Below W0.heap.size W0 w':=
 h.trans ⟨hT.os,hT.tape,hT.output,Nat.le_of_eq hT.size.symm,fun i hi=>hT.other i aa⟩
end Go.Proofs.YtjchnliaglecoaaGreatDoor