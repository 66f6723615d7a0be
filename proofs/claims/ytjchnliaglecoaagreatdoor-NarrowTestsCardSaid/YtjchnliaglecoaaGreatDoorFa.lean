/- A part of the proof. Conditions: none. -/
import Derived.Deep.QuietTactic
import Derived.BigQuiet
import Derived.Test.YtjchnliaglecoaaGreatDoorZz
import Derived.Test.YtjchnliaglecoaaGreatDoorFpX
import Derived.Test.YtjchnliaglecoaaGreatDoorBaseB
import Derived.Test.YtjchnliaglecoaaGreatDoorAmSX
set_option linter.unusedVariables false
set_option linter.unusedSimpArgs false
set_option maxRecDepth 100000
set_option maxHeartbeats 8000000
namespace Go.Proofs.YtjchnliaglecoaaGreatDoor
open Go Go.RowKit Go.Nodes
def eo (FB:Nat) (w w':World):Prop:=∀g cs t,w.heap[g]?=some (.cells cs t (0,0))→t≠3→t≠114→g≠FB→w'.heap[g]?=some (.cells cs t (0,0))
theorem eo.refl (FB:Nat) (w:World):eo FB w w:=fun _ _ _ h _ _ _=>h
theorem eo.trans {FB:Nat} {a b c:World} (h:eo FB a b) (k:eo FB b c):eo FB a c:=fun g cs t h1 h2 h3 h4=>k g cs t (h g cs t h1 h2 h3 h4) h2 h3 h4
theorem dH {FB:Nat} {w w':World} (hb:Below w.heap.size w w'):eo FB w w':=fun g cs t h1 _ _ _=>by rw [hb.block g (Array.getElem?_eq_some_iff.1 h1).1];exact h1
theorem ew {FB:Nat} {w:World} (i:Nat) (x:Value):eo FB w (w.setCell ⟨FB,i,none⟩ x):=fun g cs t h1 _ _ h4=>by rw [Below.heap_setCell _ _ _ _ (by simpa using h4)];exact h1
structure FP (FB:Nat) (p:Option Addr) (c L:Nat) (s:Fs) (w w':World):Prop where
 Ak:Qm FB p c L w' s
 below:Below FB w w'
 keep:eo FB w w'
 size:w.heap.size≤w'.heap.size
theorem FP.trans {FB c L:Nat} {p:Option Addr} {s s':Fs} {a b d:World} (h:FP FB p c L s a b) (k:FP FB p c L s' b d):FP FB p c L s' a d:=⟨k.Ak,h.below.trans k.below,h.keep.trans k.keep,Nat.le_trans h.size k.size⟩
theorem FP.later {FB c L:Nat} {p:Option Addr} {s:Fs} {a b d:World} (h:FP FB p c L s a b) (hb:Below b.heap.size b d) (hF:FB≤b.heap.size):FP FB p c L s a d:=by
 obtain⟨v0,v1,v2,v3,v4,v5,hf⟩:=h.Ak;exact⟨⟨v0,v1,v2,v3,v4,v5,hf.later hb⟩,h.below.trans (hb.mono hF),h.keep.trans (dH hb),Nat.le_trans h.size hb.size⟩
section
variable {FB:Nat} {p:Option Addr} {c L:Nat} {W W':World} {s s':Fs} {v0 v1 v2 v3 v4 v5:Value}
theorem cC.fp (h:cC FB p c L W s v0 v1 v2 v3 v4 v5) (hb:Below FB W' W) (hk:eo FB W' W) (hs:W'.heap.size≤W.heap.size):FP FB p c L s W' W:=⟨⟨v0,v1,v2,v3,v4,v5,h⟩,hb,hk,hs⟩
theorem yD (h:cC FB p c L W s v0 v1 v2 v3 v4 v5) (n e:Int):
  Calls Tryz.prog 68 #[.pointer (some ⟨FB,0,none⟩),.int .i64 n,.int .i64 e] W fun e' w'=>e'=.returned (.tuple #[])∧FP FB p c L (bB s n e) W w':=by
 have c7:=h.cell 7;have c8:=h.cell 8;have f7:=h.frozen 7;have f8:=h.frozen 8;simp only [List.getElem?_toArray,List.getElem?_cons_succ,List.getElem?_cons_zero] at c7 c8;by_cases h0:s.e=0
 ·have hf:bB s n e={s with bE:=n,e:=e}:=by unfold bB;rw [if_pos h0]
  rw [hf];have hb:Below FB W ((W.setCell ⟨FB,7,none⟩ (.int .i64 n)).setCell ⟨FB,8,none⟩ (.int .i64 e)):=((Below.refl FB W).setCell (p:=⟨FB,7,none⟩) (Nat.le_refl _) _).setCell (p:=⟨FB,8,none⟩) (Nat.le_refl _) _;have hfp:=hid (((h.aqv n).aqw e).fp hb ((ew 7 _).trans (ew 8 _)) ak);rw [h0] at c8;clear h hf hb h0;go_enter Tryz.func68,Tryz.ntmps68;go_wp2;go_end0;exact⟨rfl,hfp.out⟩
 ·have hf:bB s n e=s:=by unfold bB;rw [if_neg h0]
  rw [hf];have hfp:=hid (h.fp (Below.refl _ _) (eo.refl _ _) (Nat.le_refl _));clear h hf;go_enter Tryz.func68,Tryz.ntmps68;go_wp2;go_end0;exact⟨rfl,hfp.out⟩
end
end Go.Proofs.YtjchnliaglecoaaGreatDoor
