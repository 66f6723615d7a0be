/- A part of the proof. Conditions: none. -/
import Derived.Test.YtjchnliaglecoaaGreatDoorZz
import Derived.Test.YtjchnliaglecoaaGreatDoorW8
import Derived.Test.YtjchnliaglecoaaGreatDoorSg0X
set_option linter.unusedVariables false
set_option linter.unusedSimpArgs false
set_option maxRecDepth 100000
set_option maxHeartbeats 8000000
namespace Go.Proofs.YtjchnliaglecoaaGreatDoor
open Go Go.RowKit Go.Nodes Go.Am
structure PT (W0:World) (B:Nat) (S p:Value) (u:ByteArray) (z:Int) (w:World):Prop where
 below:Below W0.heap.size W0 w
 lt:W0.heap.size≤B
 blk:∃v,w.heap[B]?=some (.cells #[S,p,v,.int .i64 z] 79 (0,0))∧w.ownsRow W0.heap.size 5 1 v u.size (Lib.strCells u)
def Wr (W0:World) (B:Nat) (S:Value) (u:ByteArray) (z:Int) (w:World):Prop:=PT W0 B S (.pointer none) u z w∨PT W0 B S (.pointer (some ⟨B,1,none⟩)) u z w
theorem PT.size {W0 w:World} {B:Nat} {S p:Value} {u:ByteArray} {z:Int} (h:PT W0 B S p u z w):B<w.heap.size:=by
 obtain⟨v,h1,_⟩:=h.blk;exact(Array.getElem?_eq_some_iff.1 h1).1
theorem Wr.size {W0 w:World} {B:Nat} {S:Value} {u:ByteArray} {z:Int} (h:Wr W0 B S u z w):B<w.heap.size:=h.elim (·.size) (·.size)
theorem Wr.below {W0 w:World} {B:Nat} {S:Value} {u:ByteArray} {z:Int} (h:Wr W0 B S u z w):Below W0.heap.size W0 w:=h.elim (·.below) (·.below)
theorem Wr.lt {W0 w:World} {B:Nat} {S:Value} {u:ByteArray} {z:Int} (h:Wr W0 B S u z w):W0.heap.size≤B:=h.elim (·.lt) (·.lt)
theorem PT.later {W0 w w':World} {B:Nat} {S p:Value} {u:ByteArray} {z:Int} (h:PT W0 B S p u z w) (hb:Below w.heap.size w w'):PT W0 B S p u z w':=by
 obtain⟨v,h1,h2⟩:=h.blk;exact⟨h.below.trans (hb.mono h.below.size),h.lt,⟨v,mI h1 hb,IE h2 hb⟩⟩
theorem Wr.later {W0 w w':World} {B:Nat} {S:Value} {u:ByteArray} {z:Int} (h:Wr W0 B S u z w) (hb:Below w.heap.size w w'):Wr W0 B S u z w':=h.imp (·.later hb) (·.later hb)
def Kp (B:Nat) (w w':World):Prop:=w.heap.size≤w'.heap.size∧∀g cs t,w.heap[g]?=some (.cells cs t (0,0))→t≠5→g≠B→w'.heap[g]?=some (.cells cs t (0,0))
theorem Kp.refl (B:Nat) (w:World):Kp B w w:=⟨Nat.le_refl _,fun g cs t h _ _=>h⟩
theorem Kp.trans {B:Nat} {a b c:World} (h:Kp B a b) (k:Kp B b c):Kp B a c:=⟨Nat.le_trans h.1 k.1,fun g cs t h1 h2 h3=>k.2 g cs t (h.2 g cs t h1 h2 h3) h2 h3⟩
theorem aC {B:Nat} {w w':World} (hb:Below w.heap.size w w'):Kp B w w':=⟨hb.size,fun g cs t h1 _ _=>mI h1 hb⟩
theorem xU {B:Nat} {w w':World} {co:Obj} (hT:ek B co w w'):Kp B w w':=⟨Nat.le_of_eq hT.size.symm,fun g cs t h1 _ h3=>by rw [hT.other g h3];exact h1⟩
theorem G8 {B:Nat} {w0 w w':World} (hb:Below w0.heap.size w0 w) (h:Kp B w w'):Kp B w0 w':=(aC hb).trans h
theorem Wr.cell0 {W0 w:World} {B:Nat} {S:Value} {u:ByteArray} {z:Int} (h:Wr W0 B S u z w):w.cell? ⟨B,0,none⟩=some S:=by
 rcases h with h|h<;>obtain⟨v,h1,_⟩:=h.blk<;>rw [Lib.cell_of_heap h1]<;>rfl
theorem Wr.Bt {W0 w:World} {B:Nat} {S:Value} {u:ByteArray} {z:Int} (h:Wr W0 B S u z w):w.cell? ⟨B,3,none⟩=some (.int .i64 z):=by
 rcases h with h|h<;>obtain⟨v,h1,_⟩:=h.blk<;>rw [Lib.cell_of_heap h1]<;>rfl
theorem Wr.thaw {W0 w:World} {B:Nat} {S:Value} {u:ByteArray} {z:Int} (h:Wr W0 B S u z w) (o:Nat):w.frozen? ⟨B,o,none⟩=false:=by
 rcases h with h|h<;>obtain⟨v,h1,_⟩:=h.blk<;>exact Lib.frozen_of_heap h1 o
theorem PT.deep {W0 w:World} {B:Nat} {S p:Value} {u:ByteArray} {z:Int} (h:PT W0 B S p u z w) (z':Int):PT W0 B S p u z' (w.setCell ⟨B,3,none⟩ (.int .i64 z'))∧Kp B w (w.setCell ⟨B,3,none⟩ (.int .i64 z')):=by
 obtain⟨v,h1,h2⟩:=h.blk;have hT:=dD (o:=3) (v:=.int .i64 z') h1;exact Ou
theorem Wr.deep {W0 w:World} {B:Nat} {S:Value} {u:ByteArray} {z:Int} (h:Wr W0 B S u z w) (z':Int):Wr W0 B S u z' (w.setCell ⟨B,3,none⟩ (.int .i64 z'))∧Kp B w (w.setCell ⟨B,3,none⟩ (.int .i64 z')):=by
 rcases h with h|h
 ·exact⟨.inl (h.deep z').1,(h.deep z').2⟩
 ·exact⟨.inr (h.deep z').1,(h.deep z').2⟩
theorem W4 {W0 w:World} {B:Nat} {S:Value} {u:ByteArray} {z:Int} (h:Wr W0 B S u z w):Calls Tryz.prog 98 #[.pointer (some ⟨B,1,none⟩)] w fun e w'=>e=.returned (.tuple #[])∧PT W0 B S (.pointer (some ⟨B,1,none⟩)) u z w'∧Kp B w w':=by
 rcases h with h|h
 ·obtain⟨v,h1,h2⟩:=h.blk;refine(pR _ 4 w (by rw [Lib.cell_of_heap h1];rfl) (jE h1) (Nat.le_refl _) (Lib.frozen_of_heap h1 1)).mono fun e w' ⟨he,hw⟩=>⟨he, ?_⟩
  have hT:=dD (o:=1) (v:=.pointer (some ⟨B,1,none⟩)) h1;rw [←hw] at hT;exact Ou
 ·obtain⟨v,h1,h2⟩:=h.blk;refine(rX _ w (by rw [Lib.cell_of_heap h1];rfl)).mono fun e w' ⟨he,hw⟩=>⟨he, ?_⟩
  rw [hw];exact⟨h,Kp.refl _ _⟩
theorem Mv {W0 w:World} {B:Nat} {S:Value} {u:ByteArray} {z:Int} (h:Wr W0 B S u z w) (s:ByteArray) (hlen:u.size+s.size≤1000000000):
  Calls Tryz.prog 52 #[.pointer (some ⟨B,1,none⟩),.string s] w fun e w'=>e=.returned (.tuple #[.int .i64 s.size,.nilIface])∧Wr W0 B S (u++s) z w'∧Kp B w w':=by
 obtain⟨i0,hi,hz0,hz1,hz2⟩:=uA;have hlt:=h.lt;go_enter Tryz.func52,Tryz.ntmps52;go_wp2_with (go_at_call 98;refine(W4 h).mono ?_);rintro e w1 ⟨rfl,h1,aR⟩;obtain⟨v,fu,hown⟩:=h1.blk;have c0:w1.cell? ⟨B,1,none⟩=some (.pointer (some ⟨B,1,none⟩)):=by rw [Lib.cell_of_heap fu];rfl
 have c1:w1.cell? ⟨B,2,none⟩=some v:=by rw [Lib.cell_of_heap fu];rfl
 go_wp2_with (at_builtin;refine Lib.wpList_append_own_string _ rfl _ _ 75 9 rfl W0.heap.size 5 i0 Tryz.underlying75 Tryz.underlying9 hi hz0 hz1 hz2 _ _ _ rfl hown s rfl ?c3 ?c4 ?c5 ?_)
 case c3=>unfold maxLen;omega
 case c4=>omega
 case c5=>exact h1.below.size
 intro v' w2 hown' hgrow _;have hls:=h1.size;have hb2:w2.heap[B]?=some (.cells #[S,.pointer (some ⟨B,1,none⟩),v,.int .i64 z] 79 (0,0)):=by
  rw [hgrow.block B aa (fun e=>ye hown fu ai e.symm)];exact fu
 have d0:w2.cell? ⟨B,1,none⟩=some (.pointer (some ⟨B,1,none⟩)):=by rw [Lib.cell_of_heap hb2];rfl
 have d1:w2.cell? ⟨B,2,none⟩=some v:=by rw [Lib.cell_of_heap hb2];rfl
 have f1:w2.frozen? ⟨B,2,none⟩=false:=Lib.frozen_of_heap hb2 2;have ahH:Below W0.heap.size W0 w2:=h1.below.grown hgrow h1.below.size (fun k hk=>(hown.lt k hk).1);obtain⟨ao,n',cap,rfl⟩:∃ao n' cap,v'=.slice ao n' cap:=by
  rcases hown'.2 with⟨hv,_⟩|⟨g,cap,cur,hv,_⟩
  ·exact⟨_,_,_,hv⟩
  ·exact⟨_,_,_,hv⟩
 have hk2:Kp B w w2:=aR.trans ⟨hgrow.size,fun g cs t h3 h4 h5=>(hgrow.block g (Array.getElem?_eq_some_iff.1 h3).1 (fun e=>ye hown h3 h4 e.symm)).trans h3⟩;have HK:=hid hk2;have HT:=hid (dD (o:=2) (v:=.slice ao n' cap) hb2);have RL:=hid hown';have akK:=hid ahH;have Hb2:=hid hb2;have Hlt:=hid hlt;clear aR hk2 hown' ahH hb2 hown hgrow h1 fu h c0 c1 hlt;go_wp2;go_ret2;have hT:=HT.out;refine⟨rfl,.inr ?_,HK.out.trans (xU hT)⟩;refine⟨iD akK.out hT Hlt.out,Hlt.out,⟨.slice ao n' cap, ?_, ?_⟩⟩
 ·exact hT.at_
 ·rw [kF,ByteArray.size_append];exact vz RL.out hT (fun cur e=>by rw [Hb2.out] at e;cases e)
theorem IG {W0 w:World} {B:Nat} {S:Value} {u:ByteArray} {z:Int} (h:Wr W0 B S u z w) (h0:u.size≠0) (hlen:u.size≤100000000):Calls Tryz.prog 47 #[.pointer (some ⟨B,1,none⟩)] w fun e w'=>e=.returned (.string u)∧Below W0.heap.size W0 w':=by
 obtain⟨p,v,h1,h2,hb⟩:∃p v,w.heap[B]?=some (.cells #[S,p,v,.int .i64 z] 79 (0,0))∧w.ownsRow W0.heap.size 5 1 v u.size (Lib.strCells u)∧Below W0.heap.size W0 w:=by
  rcases h with h|h<;>obtain⟨v,h1,h2⟩:=h.blk<;>exact⟨_,v,h1,h2,h.below⟩
 rcases h2.2 with⟨hv,h3⟩|⟨g,cap,cur,hv,hBg,hg,hnc,hcm,hcs,htk⟩
 ·exact absurd h3 h0
 ·subst hv;have hl:u.data.toList.length=u.size:=ak;have hc1:w.cell? ⟨B,2,none⟩=some (.slice (some ⟨g,0,none⟩) u.data.toList.length cap):=by rw [Lib.cell_of_heap h1,hl];rfl
  refine(pT _ g cap cur u.data.toList w hc1 aa (by intro e;rw [e] at hl;simp at hl;omega) aa hg aa (fun j x hx=>?_)).mono fun e w' ⟨he,hw⟩=>⟨by rw [he],by rw [hw];exact Lib.below_freeze hb.drew (p:=⟨g,0,none⟩) hBg _⟩
  have h5:(Lib.strCells u)[j]?=some (Value.int .u8 x.toNat):=by rw [Lib.strCells_eq,Lib.byteCells,List.getElem?_map,hx];rfl
  rw [←htk,List.getElem?_take] at h5;split at h5
  ·simpa using h5
  ·cases h5
end Go.Proofs.YtjchnliaglecoaaGreatDoor