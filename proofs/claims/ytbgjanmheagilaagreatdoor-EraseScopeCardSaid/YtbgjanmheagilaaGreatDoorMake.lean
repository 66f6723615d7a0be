/- A part of the proof. Conditions: none. -/
import Derived.Test.YtbgjanmheagilaaGreatDoorZz
import Derived.Test.YtbgjanmheagilaaGreatDoorBaseB
set_option linter.unusedVariables false
set_option linter.unusedSimpArgs false
set_option maxRecDepth 100000
set_option maxHeartbeats 8000000
namespace Go.Proofs.YtbgjanmheagilaaGreatDoor
open Go.RowKit
theorem pH {W w1:World} {B n m:Nat} {e:TypeId} {xs:List Value} (hO:w1.ownsRow B e 1 (.slice (some ⟨m,0,none⟩) n n) n xs) (hg:W.grownBy w1 none) (hm:m=W.heap.size):∃g,w1=grow (W.alloc (.cells xs.toArray e)) g:=by
 subst hm;obtain⟨hl,h2⟩:=hO;rcases h2 with⟨h0,_⟩|⟨g',cap,cur,hv,_,hh,_,_,hsz,jl⟩
 ·cases h0
 cases hv;have ago:cur=xs.toArray:=by
  apply Array.toList_inj.1;rw [←jl,List.take_of_length_le aV]
 subst ago;refine aA ⟨hg.os,hg.tape,hg.output, ?_,fun k hk=>?_⟩
 ·have:=(Array.getElem?_eq_some_iff.1 hh).1;simp;omega
 ·simp at hk;rcases Nat.lt_or_ge k W.heap.size with h|h
  ·rw [hg.block k h ai,heap_alloc_old _ _ h]
  ·obtain rfl:k=W.heap.size:=by omega
   rw [hh,heap_alloc_new]
end Go.Proofs.YtbgjanmheagilaaGreatDoor