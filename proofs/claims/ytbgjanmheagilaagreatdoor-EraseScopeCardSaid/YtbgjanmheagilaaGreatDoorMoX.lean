/- A part of the proof. Conditions: none. -/
import Derived.Maps.OwnSet
import Derived.Test.YtbgjanmheagilaaGreatDoorZz
import Derived.Test.YtbgjanmheagilaaGreatDoorApX
import Derived.Test.YtbgjanmheagilaaGreatDoorMpX
set_option linter.unusedVariables false
set_option linter.unusedSimpArgs false
set_option maxRecDepth 100000
set_option maxHeartbeats 8000000
namespace Go.Proofs.YtbgjanmheagilaaGreatDoor
open Go Go.RowKit Go.Nodes Go.WideMaps Go.Maps Go.ChangeShapes
structure pM (D:DataW Unit) (l:List (List UInt8)):Prop where
 tidy:Tidy D
 size:Maps.size D≤l.length
 nodup:Maps.size D=l.length↔l.Nodup
 has:∀x,Maps.has D (.string x)=true↔x∈l
theorem Gc (x:List UInt8):WideAt.IsKeyLit (.string x):=by unfold WideAt.IsKeyLit;trivial
theorem pM.nil:pM (.map []) []:=⟨tidy_empty,by simp [size_eq],by simp [size_eq],by simp [has_eq]⟩
theorem pM.snoc {D:DataW Unit} {l:List (List UInt8)} (h:pM D l) (x:List UInt8) (d:DataW Unit):pM (D.put (.string x) d) (l++[x]):=by
 have hs:=size_put (k:=.string x) h.tidy d;have h1:=h.size;have h2:=h.nodup;have hx:=h.has x;refine⟨h.tidy.put (Gc x) d, ?_, ?_,fun y=>?_⟩
 ·rw [hs];split<;>simp<;>omega
 ·rw [hs,List.nodup_append];simp only [List.length_append,List.length_cons,List.length_nil];by_cases hm:x∈l
  ·rw [if_pos (hx.2 hm)];constructor
   ·intro;omega
   ·rintro⟨_,_,h3⟩;exact absurd rfl (h3 x hm x ai)
  ·rw [if_neg (fun h=>hm (hx.1 h))];constructor
   ·intro h3;exact⟨h2.1 aa,by simp,fun a ha b hb e=>by simp at hb;subst hb e;exact hm ha⟩
   ·rintro⟨h3,_,_⟩;have:=h2.2 h3;omega
 ·by_cases e:y=x
  ·subst e;rw [has_put_same h.tidy.isMap (Gc y)];simp
  ·rw [has_put_other (fun h=>e (by cases h;rfl)),h.has y];simp [e]
def zn (w:World) (p q:Option Addr) (n:Nat) (ts:List ByteArray):Prop:=∀(i:Nat) (t:ByteArray),ts[i]?=some t→
 ∃b o bq oq kk:Nat,p=some ⟨b,o,none⟩∧q=some ⟨bq,oq,none⟩∧b<w.heap.size∧bq<w.heap.size∧kk<n∧w.cell? ⟨bq,oq+i,none⟩=some (.int .i64 kk)∧w.cell? ⟨b,o+kk*4+1,none⟩=some (.string t)
theorem Qe (s:ByteArray) (hs:s.size≤20000) (w:World):Calls Tryz.prog 132 #[.string s] w fun e w'=>e=.returned (.string s)∧w=w':=by
 go_enter Tryz.func132,Tryz.ntmps132;go_wp2;go_ret;exact⟨rfl,rfl⟩
theorem Eb (w:World) (p q:Option Addr) (n c m d:Nat) (hn:(n:Int)≤5000) (hm:(m:Int)≤20000) (ts:List ByteArray) (yS:ts.length=m) (hk:zn w p q n ts) (hc:∀s∈ts,s.size≤20000):
  Calls Tryz.prog 131 #[.slice p n c,.slice q m d,.func (.func 132) #[] #[]] w fun e w'=>e=.returned (.bool (decide ((ts.map (fun s:ByteArray=>s.data.toList)).Nodup)))∧Below w.heap.size w w':=by
 have nc:= @run_makeMap Tryz.prog;have Hk:=hid hk;have Hts:=hid yS;have Hc:=hid hc;clear hk yS hc;go_enter Tryz.func131,Tryz.ntmps131;go_wp2;go_loopw [13] (fun i wr=>∃(k:Nat) (D:DataW Unit),k≤m∧i=.int .i64 k∧wr.ownsMap Tryz.prog 9 (plainElem Tryz.prog 3) w.heap.size k D∧Below w.heap.size w wr∧Hid (pM D ((ts.map (fun s:ByteArray=>s.data.toList)).take k)))
  (fun i _=>m - (intOf i).toNat)
 case atStart=>exact⟨0,_,Nat.zero_le _,rfl,World.ownsMap_made _ _ _ _,cH,hid pM.nil⟩
 case round=>
  obtain⟨k,D,hk,rfl,hown,eO,hS⟩:=hrel;by_cases hlt:k<m
  ·have KW:=trivial;exact UL
  ·obtain rfl:k=m:=by omega
   have DC:=hS.out;rw [List.take_of_length_le (by rw [List.length_map,Hts.out];exact Nat.le_refl _)] at DC;have hres:Hid ((((Maps.size D:Nat):Int)==((k:Nat):Int))=decide ((ts.map (fun s:ByteArray=>s.data.toList)).Nodup)):=hid (by
    have h3:=DC.nodup;rw [List.length_map,Hts.out] at h3;by_cases hd:(ts.map (fun s:ByteArray=>s.data.toList)).Nodup
    ·rw [decide_eq_true hd,h3.2 hd];simp
    ·rw [decide_eq_false hd];cases e:(((Maps.size D:Nat):Int)==((k:Nat):Int)) with
     |false=>rfl
     |true=>exact absurd (h3.1 (by have:=eq_of_beq e;omega)) hd)
   exact KX
theorem Qf (s:ByteArray) (hs:0<s.size∧s.size≤20000) (w:World):Calls Tryz.prog 133 #[.string s] w fun e w'=>e=.returned (.string (s.extract 0 1))∧w=w':=by
 obtain⟨h0,h1⟩:=hs;go_enter Tryz.func133,Tryz.ntmps133;go_wp2;go_ret;exact⟨rfl,rfl⟩
theorem Ec (w:World) (p q:Option Addr) (n c m d:Nat) (hn:(n:Int)≤5000) (hm:(m:Int)≤20000) (ts:List ByteArray) (yS:ts.length=m) (hk:zn w p q n ts) (hc:∀s∈ts,0<s.size∧s.size≤20000):
  Calls Tryz.prog 131 #[.slice p n c,.slice q m d,.func (.func 133) #[] #[]] w fun e w'=>e=.returned (.bool (decide ((ts.map (fun s:ByteArray=>s.data.toList.take 1)).Nodup)))∧Below w.heap.size w w':=by
 have nc:= @run_makeMap Tryz.prog;have Hk:=hid hk;have Hts:=hid yS;have Hc:=hid hc;clear hk yS hc;go_enter Tryz.func131,Tryz.ntmps131;go_wp2;go_loopw [13] (fun i wr=>∃(k:Nat) (D:DataW Unit),k≤m∧i=.int .i64 k∧wr.ownsMap Tryz.prog 9 (plainElem Tryz.prog 3) w.heap.size k D∧Below w.heap.size w wr∧Hid (pM D ((ts.map (fun s:ByteArray=>s.data.toList.take 1)).take k)))
  (fun i _=>m - (intOf i).toNat)
 case atStart=>exact⟨0,_,Nat.zero_le _,rfl,World.ownsMap_made _ _ _ _,cH,hid pM.nil⟩
 case round=>
  obtain⟨k,D,hk,rfl,hown,eO,hS⟩:=hrel;by_cases hlt:k<m
  ·have KY:=trivial;exact UL
  ·obtain rfl:k=m:=by omega
   have DC:=hS.out;rw [List.take_of_length_le (by rw [List.length_map,Hts.out];exact Nat.le_refl _)] at DC;have hres:Hid ((((Maps.size D:Nat):Int)==((k:Nat):Int))=decide ((ts.map (fun s:ByteArray=>s.data.toList.take 1)).Nodup)):=hid (by
    have h3:=DC.nodup;rw [List.length_map,Hts.out] at h3;by_cases hd:(ts.map (fun s:ByteArray=>s.data.toList.take 1)).Nodup
    ·rw [decide_eq_true hd,h3.2 hd];simp
    ·rw [decide_eq_false hd];cases e:(((Maps.size D:Nat):Int)==((k:Nat):Int)) with
     |false=>rfl
     |true=>exact absurd (h3.1 (by have:=eq_of_beq e;omega)) hd)
   exact KX
end Go.Proofs.YtbgjanmheagilaaGreatDoor
/- A part of the proof. Conditions: none. -/
set_option maxRecDepth 100000
set_option maxHeartbeats 8000000
namespace Go.Proofs.YtbgjanmheagilaaGreatDoor
open Go Go.RowKit Go.Nodes
theorem Ni {a b:Int} (h:a≠b):(a !=b)=true:=by simp [bne,bK h]
@[reducible] def F2 (x : Nd) : Value := .agg #[.int .i64 x.kind, .string x.text, .slice x.kp x.kids.length x.aC, .int .i64 x.place]
theorem EO (w:World) (p:Option Addr) (L c:Nat) (x:Nd) (hk:x.kind≠1∧x.kind≠3∧x.kind≠6∧x.kind≠7∧x.kind≠21∧x.kind≠32):
  Calls Tryz.prog 94 #[.slice p L c,F2 x] w fun e w'=>e=bV true∧Below w.heap.size w w':=by
 have e1:=bK hk.1;have e2:=bK hk.2.1;have e3:=bK hk.2.2.1;have e4:=bK hk.2.2.2.1;have e5:=bK hk.2.2.2.2.1;have e6:=bK hk.2.2.2.2.2;obtain⟨kx,text,kp,aC,kids,place⟩:=x;simp only at e1 e2 e3 e4 e5 e6;clear hk;generalize kids.length=q;go_enter Tryz.func94,Tryz.ntmps94;exact Nj
theorem EP (w:World) (p:Option Addr) (c:Nat) (ns:List Nd) (hL:(ns.length:Int)≤5000) (ha:aj w p ns) (n:Nat) (hn:n<ns.length) (text:ByteArray) (kp:Option Addr) (aC:Nat) (kids:List Int) (place:Int) (hf:bR w kp kids) (eM:(kids.length:Int)≤20000) (dR:∀k∈kids,0≤k∧k<n):
  Calls Tryz.prog 94 #[.slice p ns.length c,F2 ⟨3,text,kp,aC,kids,place⟩] w fun e w'=>e=bV (kids.dropLast.all (cy ns))∧Below w.heap.size w w':=by
 have qZ:=hid dR;have Hf:=hid hf;have Ha:=hid ha;have hns:ns.length≤5000:=aa;obtain⟨L,zN⟩:∃L,L=ns.length:=⟨_,rfl⟩;rw [←zN] at hL hns ⊢;have HL:=hid zN;obtain⟨q,hq⟩:∃q,q=kids.length:=⟨_,rfl⟩;unfold F2;simp only;rw [←hq] at eM ⊢;have Hq:=hid hq;clear dR hf ha zN hq;go_enter Tryz.func94,Tryz.ntmps94;go_wp2;go_loopw [14] (fun iv wr=>∃(j:Nat) (g:eo),iv=.int .i64 j∧j≤q∧wr=grow (w.alloc (.cells #[.int .i64 3,.string text,.slice kp q aC,.int .i64 place] 30)) g∧Hid ((kids.dropLast.drop j).all (cy ns)=kids.dropLast.all (cy ns))) (fun iv _=>q - (intOf iv).toNat)
 case atStart=>exact⟨0,_,rfl,by omega,(cW _).symm,rfl⟩
 case round=>
  obtain⟨j,g,rfl,hj,rfl,hR⟩:=hrel;by_cases Uv:j<q
  ·have qA:j<kids.length:=by have:=Hq.out;omega
   rcases Hf.out with ix|⟨bk,ok,iW,dz,dy⟩
   ·subst ix;simp at qA
   subst iW;replace dy:=dy j qA;have eC:=qZ.out kids[j] (List.getElem_mem qA);have j0:(0:Int)≤(j:Int):=aa;have j1:(j:Int)<(q:Int):=aa;by_cases kW:j+1<q
   ·have hd:=sD kids j iJ;have hr:=hR.out;rw [hd,List.all_cons] at hr;obtain⟨z,hz⟩:∃z:Nat,kids[j]=(z:Int):=⟨(kids[j]).toNat,by omega⟩;rw [hz] at hr eC dy;have hzl:z<ns.length:=aa;obtain⟨b2,o2,zM,hb2,hx2,hf2,d0,d1,d2,d3⟩:=aY Ha.out hzl;subst zM;have hka:=aR hx2;have hP:cy ns (z:Int)=decide (ns[z].kind≠10∧ns[z].kind≠11):=by unfold cy;rw [hka]
    rw [hP] at hr;have z0:(0:Int)≤(z:Int):=aa;have z1:(z:Int)<(L:Int):=dG;have j2:=bK (show(j:Int)≠(q:Int) - 1 by omega);have Hr:=hid hr;clear hR hr hd hx2 hf2 hka hP hz qA d1 d2 d3;generalize ns[z]=y at*;generalize y.kind=ky at*;by_cases Nk:ky=10
    ·have HR:Hid (kids.dropLast.all (cy ns)=false):=hid (by rw [←Hr.out,Nk];rfl);subst Nk;exact VK
    ·have agE:=Ni Nk;by_cases Nl:ky=11
     ·have HR:Hid (kids.dropLast.all (cy ns)=false):=hid (by rw [←Hr.out,Nl];rfl);subst Nl;exact VK
     ·have agF:=Ni Nl;have HR:Hid ((kids.dropLast.drop (j+1)).all (cy ns)=kids.dropLast.all (cy ns)):=hid (by
       rw [←Hr.out,decide_eq_true (⟨Nk,Nl⟩:ky≠10∧ky≠11),Bool.true_and])
      clear Hr Nk Nl;go_wp2_with (go_at_call 91;((with_reducible refine(cO _).mono ?_));rintro e w' ⟨rfl,hw⟩;rw [hw];clear hw w');go_roundw
      case rel=>exact⟨j+1,_,by go_num,by omega,rfl,HR⟩
      case measure=>simp [intOf];omega
   ·have hd:=dV kids j iJ;have zE:=dV kids (j+1) iJ;have hr:=hR.out;rw [hd] at hr;have Hr:Hid ((kids.dropLast.drop (j+1)).all (cy ns)=kids.dropLast.all (cy ns)):=hid (by rw [zE];exact hr);have j2:((j:Int)==(q:Int) - 1)=true:=aV;generalize kids[j]=u at*;clear hR hr hd zE;go_wp2_with (go_at_call 91;((with_reducible refine(cO _).mono ?_));rintro e w' ⟨rfl,hw⟩;rw [hw];clear hw w');go_roundw
    case rel=>exact⟨j+1,_,by go_num,by omega,rfl,Hr⟩
    case measure=>simp [intOf];omega
  ·obtain rfl:j=q:=by omega
   have hr:=hR.out;rw [dV kids j iJ] at hr;have Hr:=hid (show kids.dropLast.all (cy ns)=true from hr.symm);have j1:¬(j:Int)<(j:Int):=aa;clear hR hr;go_wp2;go_end0;exact acY
end Go.Proofs.YtbgjanmheagilaaGreatDoor