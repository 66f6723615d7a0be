/- A part of the proof. Conditions: none. -/
import Derived.StillTailTactics
import Derived.TacticsIn
import Derived.OrdersIn
import Derived.Test.YtbgjanmheagilaaGreatDoorZz
set_option linter.unusedVariables false
set_option linter.unusedSimpArgs false
set_option maxRecDepth 100000
set_option maxHeartbeats 8000000
namespace Go.Proofs.YtbgjanmheagilaaGreatDoor
open Go
theorem Qo {l n:Nat} {P:Program} {row:String} {args:Array Value} {w:World} {R:Value→World→Prop} (h:Rows P row args w R):RowsIn (Fence.wide.inRound l) n P row args w R:=
 fun c cs _=>let ⟨v,w',r,s⟩:=h c cs;⟨v,w',r,stepsIn_wide.2 s⟩
theorem Qp {l n:Nat} {P:Program} {o:Oper} {a:Act} {w:World} {K:Act→World→Prop} {Q:Exit→Act→World→Prop} (hd:∀c,o.op≠ .defer c)
  (h:o.wp P a w K Q):o.wpIn (Fence.wide.inRound l) n P a w K Q:=by
 refine⟨fun _ _=>trivial, ?_⟩;rw [Fence.inRound_round,Oper.semAt_some _ _ _ hd];unfold Oper.wp at h;cases hr:(execOp a.eval o).run P w with
 |ok x w'=>
  rw [hr] at h;cases x<;>simp only [Oper.upon,Oper.uponIn] at h ⊢<;>first|exact h|exact h.elim|exact⟨(nomatch ·),callsIn_wide (n:=n - 1).2 h⟩|exact⟨(nomatch ·),Qo h⟩
 |halt x w'=>
  rw [hr] at h;cases x<;>simp only [Oper.upon,Oper.uponIn] at h ⊢<;>first|exact h|exact h.elim
theorem ab6 {l n:Nat} {P:Program} {ops:Array Oper} (hd:∀(i:Nat) (o:Oper),ops[i]?=some o→∀c,o.op≠ .defer c) {Q:Exit→Act→World→Prop} {i:Nat} {K:Act→World→Prop} {a:Act} {w:World}
  (hQ:¬LetsOut Q) (h:wpOp P ops Q i K a w):wpOpIn (Fence.wide.inRound l) n P ops Q i K a w:=by
 unfold wpOp at h;unfold wpOpIn;cases ho:ops[i]? with
 |none=>simpa [ho] using h
 |some o=>
  simp only [ho] at h ⊢;split
  ·rename_i hw;simp only [hw,if_true] at h;exact Qp (hd i o ho) (h.resolve_right fun h=>hQ h.2)
  ·rename_i hw;simp only [hw] at h;exact⟨fun _ _=>trivial,h⟩
theorem Lh {l n:Nat} {P:Program} {md:Region.Mode} {ops:Array Oper} (hd:∀(i:Nat) (o:Oper),ops[i]?=some o→∀c,o.op≠ .defer c) {Q:Exit→Act→World→Prop} (hQ:¬LetsOut Q):∀(fuel:Nat) (listed:Array Bool) (a:Act) (w:World),
  wpAny P md ops Q fuel listed a w→wpAnyIn (Fence.wide.inRound l) n P md ops Q fuel listed a w
 |0,_,_,_,h=>h
 |fuel+1,listed,a,w,h=>⟨h.1,fun i hi=>wpOpIn_mono (fun a w=>Lh hd hQ fuel _ a w) (ab6 hd hQ (h.2 i hi))⟩
theorem tG {ops:Array Oper} (h:ops.all (fun o=>match o.op with| .defer _=>false|_=>true)=true):∀(i:Nat) (o:Oper),ops[i]?=some o→∀c,o.op≠ .defer c:=by
 intro i o hi c e;obtain⟨hl,rfl⟩:=Array.getElem?_eq_some_iff.1 hi;have:=Array.all_eq_true.1 h i hl;rw [e] at this;exact Bool.noConfusion this
theorem Il {l n:Nat} {P:Program} {id:Nat} {ops:Array Oper} {Q:Exit→Act→World→Prop} {a:Act} {w:World} (hm:P.follows .mixedOrders=true)
  (hd:ops.all (fun o=>match o.op with| .defer _=>false|_=>true)=true)
  (h:wpAny P .any ops (Exit.then (Q .normal) fun _ _ _=>False) ops.size (Array.replicate ops.size false) a {w with drawn:=w.drawn+1}):(Code.region id ops true).wpIn (Fence.wide.inRound l) n P Q a w:=
 wpIn_mono (wpIn_region_any hm (Lh (tG hd) (fun⟨_,_,h⟩=>h) _ _ _ _ h)) fun e a w h=>by cases e<;>first|exact h|exact h.elim
theorem kD {r n':Nat} {P:Program} {id:Nat} {Q:Exit→Act→World→Prop} {a:Act} {w:World} {l:List Oper} (n:Nat) (hm:P.follows .mixedOrders=true) (hd:l.toArray.all (fun o=>match o.op with| .defer _=>false|_=>true)=true) (hB:Region.lexTailB .any l.toArray n=true)
  (h:wpStill P l.toArray {w with drawn:=w.drawn+1} (fun a'=>wpList P l.toArray (Exit.then (Q .normal) fun _ _ _=>False) (l.drop n) a' {w with drawn:=w.drawn+1}) (l.take n) a):(Code.region id l.toArray true).wpIn (Fence.wide.inRound r) n' P Q a w:=by
 simp only [Region.lexTailB,Bool.and_eq_true,decide_eq_true_eq] at hB;obtain⟨⟨⟨⟨afK,hn⟩,hs⟩,hc⟩,afL⟩:=hB;have hn':n<l.length:=by simpa using hn
 have JP:(l.take n).length=n:=aV;have lH:(l.drop n).length=l.toArray.size - n:=ai;have afM:HeadInv .any l.toArray n (Array.replicate l.toArray.size false):=
  ⟨by simp,fun j oj _ hl=>(by rw [getD_replicate_false] at hl;cases hl),fun t _ ht=>getD_in (by simpa using ht) (getD_replicate_false _ _)⟩
 have H:=wpAnyL_lex (md:=.any) (g:=l.toArray.size - n) afK hs hc hn (l.take n) 0 _ a (fun j hj=>by
  have hj':j<n:=by rw [JP] at hj;exact hj
  simp [hj']) (by simpa using JP) afM (by rw [JP];exact afL) h
 refine Il hm hd ?_;have:=wpAny_of_head (Q':=Exit.then (Q .normal) fun _ _ _=>False) (g:=l.toArray.size - n) (fun listed a' hL=>by
  have:=wpAny_of_seq (md:=.any) (Q':=Exit.then (Q .normal) fun _ _ _=>False) (l.drop n) n listed a' {w with drawn:=w.drawn+1} (fun j=>by simp [List.getElem?_drop]) (by rw [lH];exact hL.1) hL.2
  rwa [lH] at this) _ _ _ H
 rw [JP,show n+(l.toArray.size - n)=l.toArray.size by omega] at this;exact this
end Go.Proofs.YtbgjanmheagilaaGreatDoor