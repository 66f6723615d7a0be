/- A part of the proof. Conditions: none. -/
import Derived.Test.YtjchnliaglecoaaGreatDoorZz
import Derived.Test.YtjchnliaglecoaaGreatDoorPtX
import Derived.Test.YtjchnliaglecoaaGreatDoorPu
import Derived.Test.YtjchnliaglecoaaGreatDoorAw12X
import Derived.Test.YtjchnliaglecoaaGreatDoorTs
set_option linter.unusedVariables false
set_option linter.unusedSimpArgs false
set_option maxRecDepth 100000
set_option maxHeartbeats 8000000
namespace Go.Proofs.YtjchnliaglecoaaGreatDoor
open Go Go.RowKit Go.Nodes Go.Am
def Gc (p:Option Addr) (L c:Nat) (A:Value) (n:Int) (yes:Bool) (B:Nat) (R:List (Int × Int)):Nat→World→Value→Prop
 |0,w,v=>v=.slice p L c
 |1,w,v=>v=A
 |2,w,v=>v=.int .i64 n
 |3,w,v=>v=.bool yes
 |4,w,v=>fT B w v R
 |5,w,v=>v=.slice p L c
 |6,w,v=>v=A
 |7,w,v=>v=.int .i64 n
 |8,w,v=>v=.bool yes
 |9,w,v=>fT B w v R
 |_,w,v=>v=.bool true
theorem wF {p:Option Addr} {L c:Nat} {A:Value} {n:Int} {yes:Bool} {B:Nat} {R:List (Int × Int)}:∀(k:Nat) (w w':World) (v:Value),Below w.heap.size w w'→Gc p L c A n yes B R k w v→Gc p L c A n yes B R k w' v:=by
 intro k w w' v hb h;unfold Gc at*;split at h<;>first|exact h|exact h.later hb
theorem zo {ns:List Nd} (hS:Small ns) (s:Fs) (n:Int) (yes:Bool):(mH ns s n yes).length≤5000:=by
 unfold mH;split
 ·rename_i h;obtain⟨h1,h2,h3,_⟩:=h;obtain⟨he,_⟩:=C2 hS h1;obtain⟨m,rfl⟩:∃m:Nat,n=m:=⟨n.toNat,by omega⟩;have hm:m<ns.length:=af;exact Nat.le_trans (fH (ow he) _ _ _ _ _ hm) (Nat.le_trans (LN he m hm) hS.1)
 ·exact Nat.zero_le _
theorem SI (p:Option Addr) (cap:Nat) (ns:List Nd) (n:Int) (yes:Bool) (W:World) (hw:ay W p ns) (hs:SJ ns) (hc:gS ns) (hl:bZ W):
  Calls Tryz.prog 3 #[.slice p ns.length cap,.int .i64 n,.bool yes] W fun e w'=>e=.returned (.bool true)∧Below W.heap.size W w':=by
 have HA:Hid (∀W',Below W.heap.size W W'→Calls Tryz.prog 8 #[] W' fun e w'=>e=.returned (.bool true)∧Below W'.heap.size W' w'):=hid fun W' hb=>La W' (hl.later hb)
 have Gd:∀W',Below W.heap.size W W'→Calls Tryz.prog 9 #[.slice p ns.length cap] W' fun e w'=>e=.returned (.bool (vA ns 0))∧Below W'.heap.size W' w':=fun W' hb=>LO p cap ns W' (aF hb hw)
 cases hf:vA ns 0 with
 |false=>
  rw [hf] at Gd;have HF:=hid Gd;clear hw hs hc hl hf Gd;generalize ns.length=L at*;go_enter Tryz.func3,Tryz.ntmps3;go_wp2_with (first|(go_at_call 8;refine(HA.out _ wG).mono ?_;rintro e w' ⟨rfl,hb⟩;obtain⟨G,rfl⟩:=aC hb;clear hb)|(go_at_call 9;refine(HF.out _ wG).mono ?_;rintro e w' ⟨rfl,hb⟩;obtain⟨G,rfl⟩:=aC hb;clear hb));go_ret;exact⟨rfl,wG⟩
 |true=>
  rw [hf] at Gd;have HF:=hid Gd;have hS:Small ns:=Ge hs hf;obtain⟨s,hs2⟩:∃s,s=(cy ns).1:=⟨_,rfl⟩;obtain⟨R,hR⟩:∃R,R=mH ns s n yes:=⟨_,rfl⟩;have SK:Hid (R.length≤5000):=hid (by rw [hR];exact zo hS _ _ _);have HP:Hid (∀W',Below W.heap.size W W'→Calls Tryz.prog 10 #[.slice p ns.length cap] W' fun e w'=>∃u0 u1 u2 u3 oa oe,e=.returned (.tuple #[.agg #[u0,u1,u2,u3],.int .i64 oa,.int .i64 oe])∧Below W.heap.size W w'∧nc w' u0 u1 u2 u3 s):=hid fun W' hb=>by
   refine(Cc W' p cap ns hS hc (aF hb hw) (hl.later hb)).mono ?_;intro e w' h;obtain⟨u0,u1,u2,u3,rfl,gA,hsc⟩:=h;exact⟨u0,u1,u2,u3,_,_,rfl,hb.trans (gA.mono hb.size),by rw [hs2];exact Jl hS hsc⟩
  have HT0:Hid (∀W' v0 v1 v2 v3,Below W.heap.size W W'→nc W' v0 v1 v2 v3 s→Calls Tryz.prog 12 #[.slice p ns.length cap,.agg #[v0,v1,v2,v3],.int .i64 n,.bool yes] W' (fM W' R)):=hid fun W' v0 v1 v2 v3 hb nR=>by
   rw [hR];exact LP W' p cap ns hS hc (aF hb hw) (hl.later hb) v0 v1 v2 v3 s nR n yes
  have HU0:Hid (∀W' v0 v1 v2 v3,Below W.heap.size W W'→nc W' v0 v1 v2 v3 s→Calls Tryz.prog 13 #[.slice p ns.length cap,.agg #[v0,v1,v2,v3],.int .i64 n,.bool yes] W' (fM W' R)):=hid fun W' v0 v1 v2 v3 hb nR=>by
   rw [hR];exact Lj W' p cap ns hS hc (aF hb hw) (hl.later hb) v0 v1 v2 v3 s nR n yes
  clear hw hs hc hl hf Gd hS hs2 hR;generalize ns.length=L at*;go_enter Tryz.func3,Tryz.ntmps3;go_wp2_with (first|(go_at_call 8;refine(HA.out _ wG).mono ?_;rintro e w' ⟨rfl,hb⟩;obtain⟨G,rfl⟩:=aC hb;clear hb)|(go_at_call 9;refine(HF.out _ wG).mono ?_;rintro e w' ⟨rfl,hb⟩;obtain⟨G,rfl⟩:=aC hb;clear hb)|(go_at_call 10;refine(HP.out _ wG).mono ?_;clear HP;intro e w9 hE;obtain⟨u0,u1,u2,u3,oa,oe,rfl,gA,hsc⟩:=hE;have rj:=hid gA;have Nb:=hid hsc;obtain⟨⟨p0,c0,rfl,h0⟩,⟨p1,c1,rfl,h1⟩,⟨p2,c2,rfl,h2⟩,⟨p3,c3,rfl,h3⟩,_⟩:=Nb.out;clear h0 h1 h2 h3 hsc gA));obtain⟨W6,ZB⟩:∃W6,W6=w9.alloc (.cells #[.slice p0 s.vars.length c0,.slice p1 s.uses.length c1,.slice p2 s.funcs.length c2,.slice p3 s.cF.length c3] 28):=⟨_,rfl⟩;rw [←ZB];have HW6:=hid ZB;have IC:Hid (Below W.heap.size W W6):=hid (by rw [ZB];exact bA rj.out _);have HS6:Hid (nc W6 (.slice p0 s.vars.length c0) (.slice p1 s.uses.length c1) (.slice p2 s.funcs.length c2) (.slice p3 s.cF.length c3) s):=hid (by rw [ZB];exact Nb.out.later (au _ _));have HT:Hid (∀w1,Below W6.heap.size W6 w1→Calls Tryz.prog 12 #[.slice p L cap,.agg #[.slice p0 s.vars.length c0,.slice p1 s.uses.length c1,.slice p2 s.funcs.length c2,.slice p3 s.cF.length c3],.int .i64 n,.bool yes] w1 (fM w1 R)):=hid fun w1 hb=>HT0.out w1 _ _ _ _ (IC.out.trans (hb.mono IC.out.size)) (HS6.out.later hb)
  have HU:Hid (∀w1,Below W6.heap.size W6 w1→Calls Tryz.prog 13 #[.slice p L cap,.agg #[.slice p0 s.vars.length c0,.slice p1 s.uses.length c1,.slice p2 s.funcs.length c2,.slice p3 s.cF.length c3],.int .i64 n,.bool yes] w1 (fM w1 R)):=hid fun w1 hb=>HU0.out w1 _ _ _ _ (IC.out.trans (hb.mono IC.out.size)) (HS6.out.later hb)
  clear ZB HT0 HU0 HS6 Nb;generalize s.vars.length=n0 at*;generalize s.uses.length=n1 at*;generalize s.funcs.length=n2 at*;generalize s.cF.length=n3 at*;refine wp_region_any ai ?_;refine Am.bM (Φ:=Gc p L cap (.agg #[.slice p0 n0 c0,.slice p1 n1 c1,.slice p2 n2 c2,.slice p3 n3 c3]) n yes W6.heap.size R) (w0:=W6) ai ai wF ?_ ?_ _ ((Below.refl _ _).drew)
  ·intro kq o ca w1 ho hb ah K hK;have hfn:∀f,ca.eval (.func f)=.func (.func f) #[] #[]:=fun _=>rfl
   have hcs:∀v,ca.eval (.const v)=v:=fun _=>rfl
   rcases kq with _|_|_|_|_|_|_|_|_|_|_|_|kq
   ·exact oy
   ·exact SL
   ·exact Jp
   ·exact r9
   ·cases ho;have aQ:=Am.lk 21 0 ah fun _=>rfl
    have nV:=Am.lk 22 1 ah fun _=>rfl
    have DN:=Am.lk 23 2 ah fun _=>rfl
    have Xm:=Am.lk 24 3 ah fun _=>rfl
    exact adR
   ·exact oy
   ·exact SL
   ·exact Jp
   ·exact r9
   ·cases ho;have aQ:=Am.lk 26 5 ah fun _=>rfl
    have nV:=Am.lk 27 6 ah fun _=>rfl
    have DN:=Am.lk 28 7 ah fun _=>rfl
    have Xm:=Am.lk 29 8 ah fun _=>rfl
    exact adS
   ·cases ho;have hr1:fT W6.heap.size w1 (ca.tmps.getD 25 undef) R:=Am.aV (j:=4) ah ai rfl rfl;have hr2:fT W6.heap.size w1 (ca.tmps.getD 30 undef) R:=Am.aV (j:=9) ah ai rfl rfl;have e1:ca.eval (.tmp 25)=ca.tmps.getD 25 undef:=rfl;have e2:ca.eval (.tmp 30)=ca.tmps.getD 30 undef:=rfl;generalize ca.tmps.getD 25 undef=x1 at*;generalize ca.tmps.getD 30 undef=x2 at*;exact SM
   ·cases ho;have aQ:=Am.lk 31 10 ah fun _=>rfl
    exact Dc
   ·simp at ho
  ·intro ca w1 hb hd hs aT bp;have h6:ca.tmps.getD 6 undef=.bool true:=aT 11 _ 6 rfl rfl;have bf:=Am.bC hd hs bp;simp only [List.foldl_cons,List.foldl_nil,h6] at bf;obtain⟨yf,jL⟩:∃y:Nat→Value,∀t,ca.tmps.getD t undef=y t:=⟨_,fun _=>rfl⟩;simp only [jL] at bf;clear jL;subst bf;simp only [List.setIfInBounds_toArray,List.set_cons_succ,List.set_cons_zero];have pn:=hid hb;clear hb hd hs aT bp h6;go_wp2;go_ret;exact⟨rfl,IC.out.trans (pn.out.mono IC.out.size)⟩
theorem O8 (p:Option Addr) (cap:Nat) (ns:List Nd) (v0 v1 v2 v3:Value) (s:Fs) (n:Int) (yes:Bool) (W:World) (hw:ay W p ns) (hs:SJ ns) (hc:gS ns) (hl:bZ W) (nR:nc W v0 v1 v2 v3 s)
  (hle:s.vars.length≤reachBytes∧s.uses.length≤reachBytes∧s.funcs.length≤reachBytes∧s.cF.length≤reachBytes):
  Calls Tryz.prog 4 #[.slice p ns.length cap,.agg #[v0,v1,v2,v3],.int .i64 n,.bool yes] W fun e w'=>e=.returned (.bool true)∧Below W.heap.size W w':=by
 obtain⟨W1,hW1⟩:∃W1,W1=W.alloc (.cells #[v0,v1,v2,v3] 28):=⟨_,rfl⟩;have hb1:Below W.heap.size W W1:=by rw [hW1];exact au _ _
 have hlt:W.heap.size<W1.heap.size:=r6;have HA:Hid (∀W',Below W1.heap.size W1 W'→Calls Tryz.prog 8 #[] W' fun e w'=>e=.returned (.bool true)∧Below W'.heap.size W' w'):=hid fun W' hb=>La W' (hl.later (hb1.trans (hb.mono hb1.size)))
 have Gd:∀W',Below W1.heap.size W1 W'→Calls Tryz.prog 9 #[.slice p ns.length cap] W' fun e w'=>e=.returned (.bool (vA ns 0))∧Below W'.heap.size W' w':=fun W' hb=>LO p cap ns W' (aF (hb1.trans (hb.mono hb1.size)) hw)
 have pn:=hid hb1;have Ll:=hid hW1;unfold reachBytes at hle;obtain⟨l0,l1,l2,l3⟩:=hle;cases hf:vA ns 0 with
 |false=>
  rw [hf] at Gd;have HF:=hid Gd;obtain⟨⟨p0,c0,rfl,h0⟩,⟨p1,c1,rfl,h1⟩,⟨p2,c2,rfl,h2⟩,⟨p3,c3,rfl,h3⟩,_⟩:=nR;clear h0 h1 h2 h3 hw hs hc hl hf Gd hb1 l0 l1 l2 l3;generalize ns.length=L at*;generalize s.vars.length=n0 at*;generalize s.uses.length=n1 at*;generalize s.funcs.length=n2 at*;generalize s.cF.length=n3 at*;exact adT
 |true=>
  rw [hf] at Gd;have HF:=hid Gd;have hS:Small ns:=Ge hs hf;obtain⟨R,hR⟩:∃R,R=mH ns s n yes:=⟨_,rfl⟩;have SK:Hid (R.length≤5000):=hid (by rw [hR];exact zo hS _ _ _);have HT0:Hid (∀W',Below W.heap.size W W'→Calls Tryz.prog 12 #[.slice p ns.length cap,.agg #[v0,v1,v2,v3],.int .i64 n,.bool yes] W' (fM W' R)):=hid fun W' hb=>by
   rw [hR];exact LP W' p cap ns hS hc (aF hb hw) (hl.later hb) v0 v1 v2 v3 s (nR.later hb) n yes
  have HU0:Hid (∀W',Below W.heap.size W W'→Calls Tryz.prog 13 #[.slice p ns.length cap,.agg #[v0,v1,v2,v3],.int .i64 n,.bool yes] W' (fM W' R)):=hid fun W' hb=>by
   rw [hR];exact Lj W' p cap ns hS hc (aF hb hw) (hl.later hb) v0 v1 v2 v3 s (nR.later hb) n yes
  obtain⟨⟨p0,c0,rfl,h0⟩,⟨p1,c1,rfl,h1⟩,⟨p2,c2,rfl,h2⟩,⟨p3,c3,rfl,h3⟩,_⟩:=nR;obtain⟨r0,r1,r2,r3⟩:=q8 hW1 (Below.refl _ _);clear h0 h1 h2 h3 hw hs hc hl hf Gd hb1 hS hR;generalize ns.length=L at*;generalize s.vars.length=n0 at*;generalize s.uses.length=n1 at*;generalize s.funcs.length=n2 at*;generalize s.cF.length=n3 at*;have q0:(n0:Int)≤140737488355328:=af;have q1:(n1:Int)≤140737488355328:=af;have q2:(n2:Int)≤140737488355328:=af;have q3:(n3:Int)≤140737488355328:=af;clear l0 l1 l2 l3;by_cases SN:(5000:Int)<(n1:Int)+(n0:Int)+(n2:Int)+(n3:Int)
  ·clear HT0 HU0 SK;exact adT
  ·have SP:=trivial;exact adU
end Go.Proofs.YtjchnliaglecoaaGreatDoor
