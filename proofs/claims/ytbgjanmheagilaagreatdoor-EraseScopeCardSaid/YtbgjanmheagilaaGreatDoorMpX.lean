/- A part of the proof. Conditions: none. -/
import Derived.Maps.Own
import Derived.Maps.OwnOps
import Derived.Maps.OwnSet
import Derived.Outline
import Derived.Test.YtbgjanmheagilaaGreatDoorZz
import Derived.Test.YtbgjanmheagilaaGreatDoorLb
import Derived.Lib.IndexAny
set_option linter.unusedVariables false
set_option linter.unusedSimpArgs false
set_option maxRecDepth 100000
set_option maxHeartbeats 8000000
namespace Go.Proofs.YtbgjanmheagilaaGreatDoor
open Go Go.RowKit Go.WideMaps Go.Maps Go.ChangeShapes
def bf:List (List UInt8):=[[97,110,100],[98,114,101,97,107],[99,104,97,110,110,101,108],[100,111],[101,108,115,101],[101,108,115,101,105,102],[101,110,100],[102,97,108,115,101],[102,117,110,99,116,105,111,110],[105,102],[108,111,99,97,108],[110,105,108],[110,111,116],[111,114],[114,101,116,117,114,110],[116,104,101,110],[116,114,117,101],[119,104,105,108,101]]
def uz:ByteArray:=⟨#[97,110,100,32,98,114,101,97,107,32,99,104,97,110,110,101,108,32,100,111,32,101,108,115,101,32,101,108,115,101,105,102,32,101,110,100,32,102,97,108,115,101,32,102,117,110,99,116,105,111,110,32,105,102,32,108,111,99,97,108,32,110,105,108,32,110,111,116,32,111,114,32,114,101,116,117,114,110,32,116,104,101,110,32,116,114,117,101,32,119,104,105,108,101]⟩
theorem Qj:Lib.fields uz.data.toList=bf:=by decide+kernel
theorem zC:∀(j:Nat) b,uz.data.toList[j]?=some b→b.toNat<128:=fun j b h=>by
 have:uz.data.toList.all (fun b=>decide (b.toNat<128))=true:=cZ;exact of_decide_eq_true (List.all_eq_true.1 this b (List.mem_of_getElem? h))
theorem zD (w:World) (hl:bu w):Calls Tryz.prog 179 #[.string uz] w fun e w'=>e=.returned (.slice (some ⟨w.heap.size,0,none⟩) 18 18)∧w'=w.alloc (.cells (bf.map str).toArray 9):=by
 have:=Tryz.strings_Fields_laid uz w cZ zC hl.asc;rw [Qj] at this;exact this
theorem Eo:Keyed Tryz.prog 9:=string_keyed Tryz.underlying9
theorem rP (w:World):(zeroValue 3).run Tryz.prog w=.ok (.int .i64 0) w:=by kernel_rfl
@[reducible] def iw (n : Int) : DataW Unit := .lit (.int .i64 n)
def Wf (k:Nat):DataW Unit:=(bf.take k).foldl (fun D l=>D.put (.string l) (iw 1)) (.map [])
theorem Qk (k:Nat) (hk:k<18):Wf (k+1)=(Wf k).put (.string (bf.getD k [])) (iw 1):=by
 unfold Wf;have hk2:k<bf.length:=hk;rw [List.take_add_one,List.getElem?_eq_getElem hk2,List.foldl_append,List.getD,List.getElem?_eq_getElem hk2];rfl
theorem BH (k:Nat):(bf.getD k []).length≤maxLen:=by
 by_cases hk:k<18
 ·have:bf.all (fun l=>decide (l.length≤20))=true:=by decide
  have h2:=List.all_eq_true.1 this (bf[k]'hk) (List.getElem_mem _);rw [List.getD,List.getElem?_eq_getElem (show k<bf.length from hk)];have:=of_decide_eq_true h2;simp only [Option.getD_some];unfold maxLen;omega
 ·rw [List.getD,List.getElem?_eq_none (show bf.length≤k by simp [bf];omega)];exact Nat.zero_le _
theorem xx (w:World) (hl:bu w):Calls Tryz.prog 158 #[] w fun e w'=>e=.returned (.map (some w.heap.size))∧Below w.heap.size w w'∧w'.ownsMap Tryz.prog 9 (plainElem Tryz.prog 3) w.heap.size 18 (Wf 18):=by
 have nc:= @run_makeMap Tryz.prog;have Hl:=hid hl;clear hl;go_enter Tryz.func158,Tryz.ntmps158;go_wp2_with (go_at_call 179;refine(zD _ (Hl.out.later ((Below.refl _ _).alloc (Nat.le_refl _) _))).mono ?_;rintro e w' ⟨rfl,rfl⟩);go_loopw [7] (fun i wr=>∃k:Nat,k≤18∧i=.int .i64 k∧wr.ownsMap Tryz.prog 9 (plainElem Tryz.prog 3) w.heap.size k (Wf k)∧Below w.heap.size w wr∧Hid (wr.heap[w.heap.size+1]?=some (.cells (bf.map str).toArray 9 (0,0))))
  (fun i _=>18 - (intOf i).toNat)
 case atStart=>
  refine⟨0,Nat.zero_le _,rfl,(World.ownsMap_made _ _ _ _).alloc _,cH, ?_⟩;have:=heap_alloc_new (w.alloc (.map #[] 0)) (.cells (bf.map str).toArray 9)
  rwa [show(w.alloc (.map #[] 0)).heap.size=w.heap.size+1 by simp] at this
 case round=>
  obtain⟨k,hk,rfl,hown,eO,hC⟩:=hrel;by_cases hlt:k<18
  ·have sV:wr.cell? ⟨w.heap.size+1,k,none⟩=some (.string ⟨(bf.getD k []).toArray⟩):=by
    have hk2:k<bf.length:=hlt;simp only [World.cell?,hC.out];simp [str,List.getD,List.getElem?_eq_getElem hk2]
   have hkey:keyOf Tryz.prog 9 (.string ⟨(bf.getD k []).toArray⟩)=some (.string (bf.getD k [])):=by
    have:=keyOf_string_mk (s:=⟨(bf.getD k []).toArray⟩) Tryz.underlying9 (by have:=BH k;simpa [ByteArray.size] using this);simpa using this
   have hst:=Qk k hlt;generalize bf.getD k []=l at*;have Hst:=hid hst;have JM:(0:Int)≤(k:Int):=aa;have tD:(k:Int)<18:=aa;clear hst;go_wp2_with (first
    |(at_mapUpdate;refine wpList_mapUpdate_own _ rfl _ _ _ 147 rfl 9 3 Eo Tryz.underlying147 _ w.heap.size k _ rfl hown kT _ _ _ rfl rfl hkey _ [] (plainElem_int Tryz.underlying3 (WalkArith.wf_i64 aa)) ?_))
   intro w1 hown1 qK;have R1:=Hst.out.symm ▸ hown1;have R2:=eO.grown qK eO.size (fun j hj=>by cases hj;exact Nat.le_refl _);have R3:Hid (w1.heap[w.heap.size+1]?=some (.cells (bf.map str).toArray 9 (0,0))):=hid (by
    rw [qK.block _ (Array.getElem?_eq_some_iff.1 hC.out).1 ai];exact hC.out)
   clear hown1 qK hown sV hC eO;go_wp2;go_roundw
   case rel=>exact⟨k+1,by omega,by go_num,R1,R2,R3⟩
   case measure=>simp [intOf];omega
  ·obtain rfl:k=18:=by omega
   go_wp2;go_ret;exact⟨rfl,eO,hown⟩
end Go.Proofs.YtbgjanmheagilaaGreatDoor
/- A part of the proof. Conditions: none. -/
set_option maxRecDepth 100000
set_option maxHeartbeats 8000000
namespace Go.Proofs.YtbgjanmheagilaaGreatDoor
open Go Go.RowKit Go.WideMaps Go.Maps Go.ChangeShapes
theorem wo (k:List UInt8) (z:DataW Unit):∀(L:List (List UInt8)) (D:DataW Unit),IsMap D→(L.foldl (fun D l=>D.put (.string l) (iw 1)) D).atKey (.string k) z=if k∈L then iw 1 else D.atKey (.string k) z
 |[],D,_=>by simp
 |x::L,D,h=>by
  rw [List.foldl_cons,wo k z L _ (h.put _ _)];by_cases hx:k=x
  ·subst hx;rw [if_pos List.mem_cons_self,atKey_put_same (k:=.string k) h True.intro];simp
  ·rw [atKey_put_other (by intro e;exact hx (Lit.string.inj e))];simp [hx]
theorem Xa (k:List UInt8):(Wf 18).atKey (.string k) (iw 0)=iw (if k∈bf then 1 else 0):=by
 unfold Wf;rw [show bf.take 18=bf from rfl,wo k _ _ _ isMap_empty];split<;>rfl
theorem Cz (c:Nat) (hc:c<256) (w:World):Calls Tryz.prog 159 #[.int .u8 (c:Int)] w fun e w'=>e=.returned (.bool (dD c))∧Below w.heap.size w w':=zO JV c hc w
theorem oO (c:Nat) (hc:c<256) (w:World):Calls Tryz.prog 157 #[.int .u8 (c:Int)] w fun e w'=>e=.returned (.bool (gw c))∧Below w.heap.size w w':=zO DD c hc w
theorem oP (c:Nat) (hc:c<256) (w:World):Calls Tryz.prog 101 #[.int .u8 (c:Int)] w fun e w'=>e=.returned (.bool (jb c))∧Below w.heap.size w w':=zO DF c hc w
theorem yl (c:Nat) (hc:c<256) (w:World):Calls Tryz.prog 103 #[.int .u8 (c:Int)] w fun e w'=>e=.returned (.bool (dD c))∧Below w.heap.size w w':=zO GZ c hc w
def cr (l:List UInt8):Bool:=match l with
 |[]=>false
 |b::_=> !gw b.toNat && !decide (l∈bf) && l.all (fun b=>dD b.toNat)
theorem wR (l:List UInt8) (k:Nat) (hk:k<l.length):(l.drop k).all (fun b=>dD b.toNat)=(dD l[k].toNat && (l.drop (k+1)).all (fun b=>dD b.toNat)):=by
 exact uy
theorem vA (s:ByteArray) (hs:s.size≤140737488355328) (w:World) (hl:bu w):
  Calls Tryz.prog 123 #[.string s] w fun e w'=>e=.returned (.bool (cr s.data.toList))∧Below w.heap.size w w':=by
 have dW:s.data.toList.length=s.size:=ai;by_cases h0:s.size=0
 ·have Oz:=trivial;exact UY
 ·have TM:=trivial;exact ab5
end Go.Proofs.YtbgjanmheagilaaGreatDoor
/- A part of the proof. Conditions: none. -/
set_option maxRecDepth 100000
set_option maxHeartbeats 8000000
namespace Go.Proofs.YtbgjanmheagilaaGreatDoor
open Go Go.RowKit Go.WideMaps Go.Maps Go.ChangeShapes
theorem Ld:(bf.all fun l=>nH 102 [str l] (.bool true))=true:=by kernel_rfl
theorem bJ {l m:List UInt8} (h:l ∉ bf) (hm:m∈bf):(l==m)=false:=by
 cases e:l==m with
 |false=>rfl
 |true=>exact absurd (eq_of_beq e ▸ hm) h
theorem Qm (s:ByteArray) (h:s.data.toList ∉ bf) (w:World):Calls Tryz.prog 102 #[.string s] w fun e w'=>e=.returned (.bool false)∧Below w.heap.size w w':=by
 have h0:(s.toList==[97,110,100])=false:=by rw [ByteArray.toList_eq];exact bJ h ay
 have h1:(s.toList==[98,114,101,97,107])=false:=by rw [ByteArray.toList_eq];exact bJ h ay
 have h2:(s.toList==[99,104,97,110,110,101,108])=false:=by rw [ByteArray.toList_eq];exact bJ h ay
 have h3:(s.toList==[100,111])=false:=by rw [ByteArray.toList_eq];exact bJ h ay
 have h4:(s.toList==[101,108,115,101])=false:=by rw [ByteArray.toList_eq];exact bJ h ay
 have h5:(s.toList==[101,108,115,101,105,102])=false:=by rw [ByteArray.toList_eq];exact bJ h ay
 have h6:(s.toList==[101,110,100])=false:=by rw [ByteArray.toList_eq];exact bJ h ay
 have h7:(s.toList==[102,97,108,115,101])=false:=by rw [ByteArray.toList_eq];exact bJ h ay
 have h8:(s.toList==[102,117,110,99,116,105,111,110])=false:=by rw [ByteArray.toList_eq];exact bJ h ay
 have h9:(s.toList==[105,102])=false:=by rw [ByteArray.toList_eq];exact bJ h ay
 have h10:(s.toList==[108,111,99,97,108])=false:=by rw [ByteArray.toList_eq];exact bJ h ay
 have h11:(s.toList==[110,105,108])=false:=by rw [ByteArray.toList_eq];exact bJ h ay
 have h12:(s.toList==[110,111,116])=false:=by rw [ByteArray.toList_eq];exact bJ h ay
 have h13:(s.toList==[111,114])=false:=by rw [ByteArray.toList_eq];exact bJ h ay
 have h14:(s.toList==[114,101,116,117,114,110])=false:=by rw [ByteArray.toList_eq];exact bJ h ay
 have HZ:(s.toList==[116,104,101,110])=false:=by rw [ByteArray.toList_eq];exact bJ h ay
 have h16:(s.toList==[116,114,117,101])=false:=by rw [ByteArray.toList_eq];exact bJ h ay
 have UJ:(s.toList==[119,104,105,108,101])=false:=by rw [ByteArray.toList_eq];exact bJ h ay
 clear h;go_enter Tryz.func102,Tryz.ntmps102;exact uF
theorem Lf (s:ByteArray) (w:World):Calls Tryz.prog 102 #[.string s] w fun e w'=>e=.returned (.bool (decide (s.data.toList∈bf)))∧Below w.heap.size w w':=by
 by_cases h:s.data.toList∈bf
 ·have:=iN (List.all_eq_true.1 Ld _ h) w;rw [decide_eq_true h];have e:s=⟨s.data.toList.toArray⟩:=ai;rw [e];exact this
 ·rw [decide_eq_false h];exact Qm s h w
theorem zJ (c:Nat) (h:dD c=true):jb c= !gw c:=by
 unfold dD at h;cases hd:gw c with
 |false=>rw [hd,Bool.or_false] at h;rw [h];rfl
 |true=>
  unfold gw at hd;simp only [Bool.and_eq_true,Nat.ble_eq] at hd;unfold jb;have h1:Nat.beq c 95=false:=by cases e:Nat.beq c 95 with
   |false=>rfl
   |true=>have:=Nat.eq_of_beq_eq_true e;omega
  have h2:Nat.ble 97 c=false:=by cases e:Nat.ble 97 c with
   |false=>rfl
   |true=>have:=Nat.le_of_ble_eq_true e;omega
  have h3:Nat.ble 65 c=false:=by cases e:Nat.ble 65 c with
   |false=>rfl
   |true=>have:=Nat.le_of_ble_eq_true e;omega
  rw [h1,h2,h3];rfl
theorem Ik (b:UInt8) (t:List UInt8):cr (b::t)=(jb b.toNat && !decide (b::t∈bf) && (b::t).all (fun b=>dD b.toNat)):=by
 show(!gw b.toNat && !decide (b::t∈bf) && (b::t).all (fun b=>dD b.toNat))=_;cases h:(b::t).all (fun b=>dD b.toNat) with
 |false=>rw [Bool.and_false,Bool.and_false]
 |true=>
  have:=List.all_eq_true.1 h b List.mem_cons_self;rw [zJ b.toNat this]
theorem xy (s:ByteArray) (hs:s.size≤140737488355328) (w:World):
  Calls Tryz.prog 70 #[.string s] w fun e w'=>e=.returned (.bool (cr s.data.toList))∧Below w.heap.size w w':=by
 have dW:s.data.toList.length=s.size:=ai;by_cases h0:s.size=0
 ·have Lg:=trivial;exact UY
 ·have Qn:=trivial;exact ab5
end Go.Proofs.YtbgjanmheagilaaGreatDoor
/- A part of the proof. Conditions: none. -/
set_option maxRecDepth 100000
set_option maxHeartbeats 8000000
namespace Go.Proofs.YtbgjanmheagilaaGreatDoor
open Go Go.RowKit
def wD (l a:List UInt8):Bool:= !l.isEmpty && !decide (0≤Lib.indexByte l 32) && Lib.contains (32::(a++[32])) (32::(l++[32]))
def De:List UInt8→List (List UInt8)
 |[]=>[]
 |b::l=>if b=32 then l.takeWhile (fun x=>x !=32)::De l else De l
theorem nX:∀(l H:List UInt8),32 ∉ l→(l++[32]).isPrefixOf H=true→H.takeWhile (fun x=>x !=32)=l
 |[],[],_,h=>by simp at h
 |[],b::H,_,h=>by
  simp at h;subst h;simp
 |x::l,[],_,h=>by simp at h
 |x::l,b::H,hl,h=>by
  rw [List.cons_append,List.isPrefixOf_cons_cons,Bool.and_eq_true] at h;have e:x=b:=eq_of_beq h.1;subst e;have hx:(x !=32)=true:=by
   rw [bne_iff_ne];intro e;subst e;exact hl List.mem_cons_self
  rw [List.takeWhile_cons,hx];simp only [if_true];rw [nX l H (fun h'=>hl (List.mem_cons_of_mem _ h')) h.2]
theorem wE (l:List UInt8) (hl:32 ∉ l):∀H:List UInt8,0≤Lib.index H (32::(l++[32]))→l∈De H
 |[],h=>by simp [Lib.index] at h
 |b::H,h=>by
  unfold Lib.index at h;unfold De;split at h
  ·rename_i hp;rw [List.isPrefixOf_cons_cons,Bool.and_eq_true] at hp;have e:32=b:=eq_of_beq hp.1;subst e;rw [if_pos rfl,nX l H hl hp.2];exact List.mem_cons_self
  ·split at h
   ·omega
   ·have h2:0≤Lib.index H (32::(l++[32])):=by
     rename_i h3;have:=Lib.index_ge H (32::(l++[32]));simp at h3;omega
    have:=wE l hl H h2;split
    ·exact List.mem_cons_of_mem _ this
    ·exact this
theorem wW (l:List UInt8):decide (0≤Lib.indexByte l 32)=l.contains 32:=(Lib.contains_iff_indexByte l 32).symm
theorem qT {a:List UInt8} {W:List (List UInt8)} (h1:(De (32::(a++[32]))).all (fun c=>c.isEmpty||W.contains c)=true) (h2:W.all (fun l=>wD l a)=true) (l:List UInt8):wD l a=W.contains l:=by
 cases h:W.contains l with
 |true=>exact List.all_eq_true.1 h2 l kV
 |false=>
  cases h3:wD l a with
  |false=>rfl
  |true=>
   unfold wD at h3;simp only [Bool.and_eq_true,Bool.not_eq_true'] at h3;obtain⟨⟨g1,g2⟩,g3⟩:=h3;rw [wW] at g2;have g4:32 ∉ l:=by simpa using g2
   unfold Lib.contains at g3;have:=wE l g4 _ (of_decide_eq_true g3);have h5:=List.all_eq_true.1 h1 l this;rw [g1,h] at h5;cases h5
theorem aed (a:ByteArray):(({data:=#[32]}:ByteArray)++a++{data:=#[32]}).data.toList=32::(a.data.toList++[32]):=by
 simp [ByteArray.data_append]
theorem JF (a:ByteArray) (h:a.size≤1000):(({data:=#[32]}:ByteArray)++a++{data:=#[32]}).size<4294967281:=by
 rw [ByteArray.size_append,ByteArray.size_append];show 1+a.size+1<4294967281;omega
theorem kG (s a:ByteArray) (hs:s.size≤100000) (ha:a.size≤1000) (w:World) (hl:bu w):
  Calls Tryz.prog 125 #[.string s,.string a] w fun e w'=>e=.returned (.bool (wD s.data.toList a.data.toList))∧Below w.heap.size w w':=by
 obtain⟨m,hm⟩:=hl.max;have Hm:=hid hm;clear hm hl;by_cases h0:s.toList=[]
 ·have hr:wD s.data.toList a.data.toList=false:=by rw [←ByteArray.toList_eq,h0];rfl
  have Hr:=hid hr;clear hr;go_enter Tryz.func125,Tryz.ntmps125;go_wp2;go_ret;exact⟨by rw [Hr.out];rfl,Below.refl _ _⟩
 ·have h1:s.toList.isEmpty=false:=by cases e:s.toList with
   |nil=>exact absurd e h0
   |cons x l=>rfl
  have hc1:=Tryz.strings_Contains_one s 32;have hr:wD s.data.toList a.data.toList=(!decide (0≤Lib.indexByte s.data.toList 32) && Lib.contains (32::(a.data.toList++[32])) (32::(s.data.toList++[32]))):=by
   unfold wD;rw [←ByteArray.toList_eq,h1];rfl
  generalize decide (0≤Lib.indexByte s.data.toList 32)=x at*;have Hc1:=hid hc1;have Hr:=hid hr;clear hc1 hr;have hc2:Calls Tryz.prog 160 #[.string ({data:=#[32]}++a++{data:=#[32]}),.string ({data:=#[32]}++s++{data:=#[32]})] w fun e w'=>e=.returned (.bool (Lib.contains (32::(a.data.toList++[32])) (32::(s.data.toList++[32]))))∧w'=w:=by
   have:=Tryz.strings_Contains _ ({data:=#[32]}++s++{data:=#[32]}) m w (JF a ha) Hm.out
   rwa [aed,aed] at this
  generalize Lib.contains (32::(a.data.toList++[32])) (32::(s.data.toList++[32]))=y at*;have Hc2:=hid hc2;clear hc2;cases x with
  |true=>
   have tN:Hid (wD s.data.toList a.data.toList=false):=hid (by rw [Hr.out];rfl);clear Hr;go_enter Tryz.func125,Tryz.ntmps125;go_wp2_with (go_at_call 160;((with_reducible refine(Hc1.out _).mono ?_));rintro e w' ⟨rfl,rfl⟩);go_ret;exact⟨by rw [tN.out];rfl,Below.refl _ _⟩
  |false=>
   have tN:Hid (wD s.data.toList a.data.toList=y):=hid (by rw [Hr.out];rfl);clear Hr;go_enter Tryz.func125,Tryz.ntmps125;go_wp2_with (first
    |(go_at_call 160;((with_reducible refine(Hc1.out _).mono ?_));rintro e w' ⟨rfl,rfl⟩)
    |(go_at_call 160;refine Hc2.out.mono ?_;rintro e w' ⟨rfl,rfl⟩))
   go_ret;exact⟨by rw [tN.out];rfl,Below.refl _ _⟩
end Go.Proofs.YtbgjanmheagilaaGreatDoor
/- A part of the proof. Conditions: none. -/
set_option maxRecDepth 100000
set_option maxHeartbeats 8000000
namespace Go.Proofs.YtbgjanmheagilaaGreatDoor
open Go Go.RowKit
def nG:List UInt8:=[45,57,50,50,51,51,55,50,48,51,54,56,53,52,55,55,53,56,48,56]
def cI (l:List UInt8):Bool:=if l=nG then true else match dY (Lib.trimPrefix l [45]) with
 |none=>false
 |some n=>decide (Lib.itoa (wrap64 n)=l)||(decide (0<wrap64 n) && decide (Lib.itoa (-wrap64 n)=l))
theorem jE (x:Int):-9223372036854775808≤wrap64 x:=by unfold wrap64;omega
theorem ig (x:Int):wrap64 x≤9223372036854775807:=by unfold wrap64;omega
theorem PX (l p:List UInt8):(Lib.trimPrefix l p).length≤l.length:=by
 unfold Lib.trimPrefix;split
 ·simp
 ·exact Nat.le_refl _
theorem A2 (s:ByteArray) (hs:s.size≤100000) (w:World) (hl:bu w):
  Calls Tryz.prog 128 #[.string s] w fun e w'=>e=.returned (.bool (cI s.data.toList))∧Below w.heap.size w w':=by
 have dW:s.data.toList.length=s.size:=ai;obtain⟨t,ht⟩:∃t:ByteArray,t=⟨(Lib.trimPrefix s.data.toList [45]).toArray⟩:=⟨_,rfl⟩;have htd:t.data.toList=Lib.trimPrefix s.data.toList [45]:=by rw [ht]
 have yS:t.size≤100000:=by
  have h1:t.data.toList.length=t.size:=ai;have:=PX s.data.toList [45];rw [←htd] at this;omega
 have wZ:Hid (∀w,Calls Tryz.prog 162 #[.string s,.string ⟨#[45]⟩] w fun e w'=>e=.returned (.string t)∧w'=w):=hid (by rw [ht];exact Tryz.strings_TrimPrefix s ⟨#[45]⟩);have js:Hid (∀w,Calls Tryz.prog 126 #[.string t] w fun e w'=>e=.returned (lJ (dY t.data.toList))∧Below w.heap.size w w'):=hid (fun w=>od t aa w);have Hl:=hid hl;have hm:cI s.data.toList=if s.data.toList=nG then true else match dY t.data.toList with
  |none=>false
  |some n=>decide (Lib.itoa (wrap64 n)=s.data.toList)||(decide (0<wrap64 n) && decide (Lib.itoa (-wrap64 n)=s.data.toList)):=by
  rw [htd];rfl
 clear hl ht htd dW;generalize dY t.data.toList=o at*;have Hm:=hid hm;clear hm;cases o with
 |none=>
  have dr:Hid (∀w,Calls Tryz.prog 126 #[.string t] w fun e w'=>e=.returned (.tuple #[.int .i64 0,.bool false])∧Below w.heap.size w w'):=js;clear js;by_cases h0:s.data.toList=nG
  ·exact Uk
  ·have h1:(s.toList==[45,57,50,50,51,51,55,50,48,51,54,56,53,52,55,55,53,56,48,56])=false:=by
    exact DB
   have Hr:Hid (cI s.data.toList=false):=hid (by rw [Hm.out,if_neg h0]);clear Hm h0;go_enter Tryz.func128,Tryz.ntmps128;go_wp2_with (first
    |(go_at_call 162;((with_reducible refine(wZ.out _).mono ?_));rintro e w' ⟨rfl,rfl⟩)
    |(go_at_call 126;((with_reducible refine(dr.out _).mono ?_));rintro e w' ⟨rfl,hb⟩;obtain⟨g1,rfl⟩:=aA hb;clear hb)
    |(go_at_call 127;refine(jF _ aa aa _ (Hl.out.later cH)).mono ?_;rintro e w' ⟨rfl,hb⟩;obtain⟨g2,rfl⟩:=aA hb;clear hb))
   exact tM
 |some n=>
  have dr:Hid (∀w,Calls Tryz.prog 126 #[.string t] w fun e w'=>e=.returned (.tuple #[.int .i64 (wrap64 n),.bool true])∧Below w.heap.size w w'):=js;have z0:=jE (n:Int);have z1:=ig (n:Int);have wG:=Hm.out;simp only at wG;clear js Hm;generalize wrap64 (n:Int)=z at*;have Hm:=hid wG;clear wG;by_cases h0:s.data.toList=nG
  ·exact Uk
  ·have h1:(s.toList==[45,57,50,50,51,51,55,50,48,51,54,56,53,52,55,55,53,56,48,56])=false:=by
    exact DB
   obtain⟨S1,hS1⟩:∃S:ByteArray,S=⟨(Lib.itoa z).toArray⟩:=⟨_,rfl⟩;obtain⟨S2,DC⟩:∃S:ByteArray,S=⟨(Lib.itoa (-z)).toArray⟩:=⟨_,rfl⟩;have H1:Hid (∀w,bu w→Calls Tryz.prog 127 #[.int .i64 z] w fun e w'=>e=.returned (.string S1)∧Below w.heap.size w w'):=hid (by rw [hS1];exact fun w h=>jF z z0 z1 w h);have H2:Hid (0<z→∀w,bu w→Calls Tryz.prog 127 #[.int .i64 (-z)] w fun e w'=>e=.returned (.string S2)∧Below w.heap.size w w'):=hid (by rw [DC];exact fun hz w h=>jF (-z) aa aa w h);have e1:decide (Lib.itoa z=s.data.toList)=(S1.toList==s.toList):=by
    exact yT
   have e2:decide (Lib.itoa (-z)=s.data.toList)=(S2.toList==s.toList):=by
    rw [ByteArray.toList_eq,ByteArray.toList_eq,DC];exact(Bool.beq_eq_decide_eq _ _).symm
   have hr:cI s.data.toList=((S1.toList==s.toList)||(decide (0<z) && (S2.toList==s.toList))):=by rw [Hm.out,if_neg h0,e1,e2]
   have Hr:=hid hr;have HL:Hid (∀w',Below w.heap.size w w'→bu w'):=hid fun w' h=>Hl.out.later h
   clear Hm h0 hr hS1 DC e1 e2 Hl;by_cases hz:0<z
   ·have H2:=hid (H2.out hz);have tN:Hid (cI s.data.toList=((S1.toList==s.toList)||(S2.toList==s.toList))):=hid (by rw [Hr.out,decide_eq_true hz,Bool.true_and]);clear Hr;cases q1:(S1.toList==s.toList) with
    |true=>
     have Hr:Hid (cI s.data.toList=true):=hid (by rw [tN.out,q1,Bool.true_or]);clear tN;go_enter Tryz.func128,Tryz.ntmps128;go_wp2_with (first
     |(go_at_call 162;((with_reducible refine(wZ.out _).mono ?_));rintro e w' ⟨rfl,rfl⟩)
     |(go_at_call 126;((with_reducible refine(dr.out _).mono ?_));rintro e w' ⟨rfl,hb⟩;obtain⟨g1,rfl⟩:=aA hb;clear hb)
     |(go_at_call 127;((with_reducible refine(H1.out _ ?_).mono ?_));rotate_left;rintro e w' ⟨rfl,hb⟩;obtain⟨g2,rfl⟩:=aA hb;clear hb)
     |(go_at_call 127;((with_reducible refine(H2.out _ ?_).mono ?_));rotate_left;rintro e w' ⟨rfl,hb⟩;obtain⟨g2,rfl⟩:=aA hb;clear hb))
     all_goals first
      |(go_ret;exact⟨by rw [Hr.out];rfl,cH⟩)
      |exact HL.out _ cH
    |false=>
     have Hr:Hid (cI s.data.toList=(S2.toList==s.toList)):=hid (by rw [tN.out,q1,Bool.false_or]);clear tN;go_enter Tryz.func128,Tryz.ntmps128;go_wp2_with (first
     |(go_at_call 162;((with_reducible refine(wZ.out _).mono ?_));rintro e w' ⟨rfl,rfl⟩)
     |(go_at_call 126;((with_reducible refine(dr.out _).mono ?_));rintro e w' ⟨rfl,hb⟩;obtain⟨g1,rfl⟩:=aA hb;clear hb)
     |(go_at_call 127;((with_reducible refine(H1.out _ ?_).mono ?_));rotate_left;rintro e w' ⟨rfl,hb⟩;obtain⟨g2,rfl⟩:=aA hb;clear hb)
     |(go_at_call 127;((with_reducible refine(H2.out _ ?_).mono ?_));rotate_left;rintro e w' ⟨rfl,hb⟩;obtain⟨g2,rfl⟩:=aA hb;clear hb))
     all_goals first
      |(go_ret;exact⟨by rw [Hr.out];rfl,cH⟩)
      |exact HL.out _ cH
   ·have tN:Hid (cI s.data.toList=(S1.toList==s.toList)):=hid (by rw [Hr.out,decide_eq_false hz,Bool.false_and,Bool.or_false]);have hz2:decide (0<z)=false:=decide_eq_false hz;clear Hr H2 z0 z1 hz;cases q1:(S1.toList==s.toList) with
    |true=>
     have Hr:Hid (cI s.data.toList=true):=hid (by rw [tN.out,q1]);clear tN;go_enter Tryz.func128,Tryz.ntmps128;go_wp2_with (first
     |(go_at_call 162;((with_reducible refine(wZ.out _).mono ?_));rintro e w' ⟨rfl,rfl⟩)
     |(go_at_call 126;((with_reducible refine(dr.out _).mono ?_));rintro e w' ⟨rfl,hb⟩;obtain⟨g1,rfl⟩:=aA hb;clear hb)
     |(go_at_call 127;((with_reducible refine(H1.out _ ?_).mono ?_));rotate_left;rintro e w' ⟨rfl,hb⟩;obtain⟨g2,rfl⟩:=aA hb;clear hb))
     all_goals first
      |(go_ret;exact⟨by rw [Hr.out];rfl,cH⟩)
      |exact HL.out _ cH
    |false=>
     have Hr:Hid (cI s.data.toList=false):=hid (by rw [tN.out,q1]);clear tN;go_enter Tryz.func128,Tryz.ntmps128;go_wp2_with (first
     |(go_at_call 162;((with_reducible refine(wZ.out _).mono ?_));rintro e w' ⟨rfl,rfl⟩)
     |(go_at_call 126;((with_reducible refine(dr.out _).mono ?_));rintro e w' ⟨rfl,hb⟩;obtain⟨g1,rfl⟩:=aA hb;clear hb)
     |(go_at_call 127;((with_reducible refine(H1.out _ ?_).mono ?_));rotate_left;rintro e w' ⟨rfl,hb⟩;obtain⟨g2,rfl⟩:=aA hb;clear hb))
     all_goals first
      |(go_ret;exact⟨by rw [Hr.out];rfl,cH⟩)
      |exact HL.out _ cH
end Go.Proofs.YtbgjanmheagilaaGreatDoor
/- A part of the proof. Conditions: none. -/
set_option maxRecDepth 100000
set_option maxHeartbeats 8000000
namespace Go.Proofs.YtbgjanmheagilaaGreatDoor
open Go Go.RowKit
def iL (b:Bool) (w:World) (e:Ending) (w':World):Prop:=(∃z:Int,e=.returned (.tuple #[.int .i64 z,.bool b]))∧Below w.heap.size w w'
def cV (minus:Bool) (t:List UInt8):Bool:=match dY t with
 |none=>false
 |some n=>decide (Lib.itoa (wrap64 n)=t) && !(minus && decide (wrap64 n=0))
def Ed (l:List UInt8):Bool:=if l=nG then true else if l.head?=some 45 then cV true l.tail else cV false l
theorem zq {s:ByteArray} (h0:s.data.toList≠nG):(s.toList==[45,57,50,50,51,51,55,50,48,51,54,56,53,52,55,55,53,56,48,56])=false:=by
 exact DB
theorem XG {s:ByteArray} (h0:s.data.toList=nG):(s.toList==[45,57,50,50,51,51,55,50,48,51,54,56,53,52,55,55,53,56,48,56])=true:=by
 rw [ByteArray.toList_eq,h0];exact beq_self_eq_true nG
theorem H7 (s:ByteArray) (h0:s.data.toList=nG) (w:World):Calls Tryz.prog 73 #[.string s] w (iL true w):=by
 have h1:=XG h0;clear h0;go_enter Tryz.func73,Tryz.ntmps73;go_wp2;go_ret2;exact⟨⟨_,rfl⟩,Below.refl _ _⟩
theorem Bw (s:ByteArray) (hs:s.size≤100000) (h0:s.data.toList≠nG) (t:ByteArray) (ht:s.data.toList=45::t.data.toList) (w:World) (hl:bu w):
  Calls Tryz.prog 73 #[.string s] w (iL (cV true t.data.toList) w):=by
 have h1:=zq h0;have dW:s.data.toList.length=s.size:=ai;have htn:t.data.toList.length=t.size:=ai;have yS:t.size+1=s.size:=by rw [ht] at dW;simp only [List.length_cons] at dW;omega
 have cD:0<s.size:=aa;have hb0:(s[0]'cD).toNat=45:=by
  have:s.data.toList[0]'(by rw [dW];exact cD)=45:=by simp [ht]
  have h2:s[0]'cD=s.data.toList[0]'(by rw [dW];exact cD):=iM;rw [h2,this];rfl
 have P8:s.extract 1 s.size=t:=by
  apply oB;rw [kB,ht];rfl
 have h2:(1:Int)≤(s.size:Int):=aa;have h3:(0:Int)<(s.size:Int):=aa;have js:Hid (∀w,Calls Tryz.prog 74 #[.string t] w fun e w'=>e=.returned (lJ (dY t.data.toList))∧Below w.heap.size w w'):=hid (fun w=>lU t aa w);have HL:Hid (∀w',Below w.heap.size w w'→bu w'):=hid fun w' h=>hl.later h
 clear hl h0 ht dW htn yS;cases ho:dY t.data.toList with
 |none=>
  rw [ho] at js;have dr:Hid (∀w,Calls Tryz.prog 74 #[.string t] w fun e w'=>e=.returned (.tuple #[.int .i64 0,.bool false])∧Below w.heap.size w w'):=js;have Hr:Hid (cV true t.data.toList=false):=hid (by unfold cV;rw [ho]);exact abL
 |some n=>
  have dr:Hid (∀w,Calls Tryz.prog 74 #[.string t] w fun e w'=>e=.returned (.tuple #[.int .i64 (wrap64 n),.bool true])∧Below w.heap.size w w'):=xo;have hr:cV true t.data.toList=(decide (Lib.itoa (wrap64 n)=t.data.toList) && !(true && decide (wrap64 n=0))):=by unfold cV;rw [ho]
  have z0:=jE (n:Int);have z1:=ig (n:Int);clear js ho;generalize wrap64 (n:Int)=z at*;obtain⟨S1,hS1⟩:∃S:ByteArray,S=⟨(Lib.itoa z).toArray⟩:=⟨_,rfl⟩;have H1:Hid (∀w,bu w→Calls Tryz.prog 75 #[.int .i64 z] w fun e w'=>e=.returned (.string S1)∧Below w.heap.size w w'):=hid KE;have e1:decide (Lib.itoa z=t.data.toList)=(S1.toList==t.toList):=by
   exact yT
  have e2:decide (z=0)=(z==0):=(Bool.beq_eq_decide_eq _ _).symm;rw [e1,e2] at hr;have Hr:=hid hr;clear hr hS1 e1 e2 z0 z1;cases q1:(S1.toList==t.toList) with
  |false=>
   have q2:(S1.toList !=t.toList)=true:=by rw [bne,q1];rfl
   have tN:Hid (cV true t.data.toList=false):=hid (by rw [Hr.out,q1,Bool.false_and]);clear Hr;go_enter Tryz.func73,Tryz.ntmps73;go_wp2_with (first
    |(go_at_call 74;((with_reducible refine(dr.out _).mono ?_));rintro e w' ⟨rfl,hb⟩;obtain⟨g1,rfl⟩:=aA hb;clear hb)
    |(go_at_call 75;((with_reducible refine(H1.out _ ?_).mono ?_));rotate_left;rintro e w' ⟨rfl,hb⟩;obtain⟨g2,rfl⟩:=aA hb;clear hb))
   all_goals first
    |(go_ret2;exact⟨⟨_,by rw [tN.out];rfl⟩,cH⟩)
    |exact HL.out _ cH
  |true=>
   have q2:(S1.toList !=t.toList)=false:=by rw [bne,q1];rfl
   cases q3:(z==0) with
   |true=>
    have tN:Hid (cV true t.data.toList=false):=hid (by rw [Hr.out,q1,q3];rfl);clear Hr;go_enter Tryz.func73,Tryz.ntmps73;go_wp2_with (first
     |(go_at_call 74;((with_reducible refine(dr.out _).mono ?_));rintro e w' ⟨rfl,hb⟩;obtain⟨g1,rfl⟩:=aA hb;clear hb)
     |(go_at_call 75;((with_reducible refine(H1.out _ ?_).mono ?_));rotate_left;rintro e w' ⟨rfl,hb⟩;obtain⟨g2,rfl⟩:=aA hb;clear hb))
    all_goals first
     |(go_ret2;exact⟨⟨_,by rw [tN.out];rfl⟩,cH⟩)
     |exact HL.out _ cH
   |false=>
    have tN:Hid (cV true t.data.toList=true):=hid (by rw [Hr.out,q1,q3];rfl);clear Hr;go_enter Tryz.func73,Tryz.ntmps73;go_wp2_with (first
     |(go_at_call 74;((with_reducible refine(dr.out _).mono ?_));rintro e w' ⟨rfl,hb⟩;obtain⟨g1,rfl⟩:=aA hb;clear hb)
     |(go_at_call 75;((with_reducible refine(H1.out _ ?_).mono ?_));rotate_left;rintro e w' ⟨rfl,hb⟩;obtain⟨g2,rfl⟩:=aA hb;clear hb))
    all_goals first
     |(go_ret2;exact⟨⟨_,by rw [tN.out];rfl⟩,cH⟩)
     |exact HL.out _ cH
theorem zu (s:ByteArray) (hs:s.size≤100000) (h0:s.data.toList≠nG) (hz:(s.size:Int)≤0) (w:World) (hl:bu w):
  Calls Tryz.prog 73 #[.string s] w (iL (cV false s.data.toList) w):=by
 have h1:=zq h0;exact abM
theorem zv (s:ByteArray) (hs:s.size≤100000) (h0:s.data.toList≠nG) (hz:(1:Int)≤(s.size:Int)) (cD:0<s.size) (c:Nat) (hc:(s[0]'cD).toNat=c) (hc2:((c:Int)==45)=false) (w:World) (hl:bu w):
  Calls Tryz.prog 73 #[.string s] w (iL (cV false s.data.toList) w):=by
 have h1:=zq h0;have h3:(0:Int)<(s.size:Int):=aa;exact abM
end Go.Proofs.YtbgjanmheagilaaGreatDoor
/- A part of the proof. Conditions: none. -/
set_option maxRecDepth 100000
set_option maxHeartbeats 8000000
namespace Go.Proofs.YtbgjanmheagilaaGreatDoor
open Go Go.RowKit
theorem nS (n:Nat):∀b∈Lib.decDigits n,48≤b.toNat∧b.toNat≤57:=by
 induction n using Nat.strongRecOn with
 |_ n ih=>
  intro b hb;unfold Lib.decDigits at hb;split at hb
  ·rename_i h;rw [List.mem_singleton] at hb;subst hb;have:(UInt8.ofNat (48+n)).toNat=(48+n) % 256:=rfl;omega
  ·rename_i h;rcases List.mem_append.1 hb with hb|hb
   ·exact ih (n / 10) aa b hb
   ·rw [List.mem_singleton] at hb;subst hb;have:(UInt8.ofNat (48+n % 10)).toNat=(48+n % 10) % 256:=rfl;omega
theorem zX {z:Int} (h:0≤z):Lib.itoa z=Lib.decDigits z.natAbs:=by
 unfold Lib.itoa;rw [if_neg aa];congr 1;omega
theorem nj {z:Int} (h:z<0):Lib.itoa z=45::Lib.decDigits z.natAbs:=by
 unfold Lib.itoa;rw [if_pos h]
theorem IV {n:Nat} {t:List UInt8} (h:Lib.decDigits n=45::t):False:=by
 have:=nS n 45 (by rw [h];exact List.mem_cons_self);simp at this
theorem Gs:∀(l:List UInt8) (n m:Nat),n≤9223372036854775807→iO l n=some m→m≤9223372036854775807
 |[],n,m,h,h2=>by simp [iO] at h2;omega
 |b::l,n,m,h,h2=>by
  unfold iO at h2;split at h2
  ·cases h2
  ·exact Gs l _ m aa h2
theorem Cc {l:List UInt8} (hl:∀b∈l,48≤b.toNat∧b.toNat≤57) {n:Nat} (h:dY l=some n):n≤9223372036854775807:=by
 unfold dY at h;split at h
 ·rename_i h2;have:(120:UInt8)∈l:=by
   have h3:(120:UInt8)∈l.take 2:=by rw [h2.2];simp
   exact List.mem_of_mem_take h3
  have:=hl 120 this;simp at this
 ·split at h
  ·cases h
  ·exact Gs _ _ _ aa h
theorem Gb (t:List UInt8):dY (45::t)=none:=by
 unfold dY;rw [if_neg ai,if_neg ai];unfold iO;rw [if_pos (by left;decide)]
theorem RT (l:List UInt8):cI l=Ed l:=by
 unfold cI Ed;by_cases hm:l=nG
 ·rw [if_pos hm,if_pos hm]
 ·rw [if_neg hm,if_neg hm];by_cases Vy:∃t,l=45::t
  ·obtain⟨t,rfl⟩:=Vy;have ht:Lib.trimPrefix (45::t) [45]=t:=by simp [Lib.trimPrefix,Lib.hasPrefix]
   rw [ht,if_pos List.head?_cons];simp only [cV,List.tail_cons];cases ho:dY t with
   |none=>rfl
   |some n=>
    simp only [Bool.true_and];have z1:=ig (n:Int);have hw:n≤9223372036854775807→wrap64 (n:Int)=n:=fun h=>IntWalk.wrap64_in _ aa
    generalize hz:wrap64 (n:Int)=z at*;rw [Bool.eq_iff_iff];simp only [Bool.or_eq_true,Bool.and_eq_true,decide_eq_true_eq,Bool.not_eq_true',decide_eq_false_iff_not];constructor
    ·rintro(h|⟨h0,h⟩)
     ·exfalso;by_cases hz0:z<0
      ·rw [nj hz0] at h;have h2:=(List.cons.inj h).2;have:=Cc (l:=t) (fun b hb=>nS _ b (by rw [h2];exact hb)) ho;have:=hw this;omega
      ·rw [zX aa] at h;exact IV h
     ·rw [nj aa] at h;have h2:=(List.cons.inj h).2;refine⟨?_,by omega⟩;apply decide_eq_true;have h5:Lib.itoa z=Lib.decDigits z.natAbs:=zX aa;have h6:(-z).natAbs=z.natAbs:=Int.natAbs_neg z;exact h5.trans (by rw [←h6];exact h2)
    ·rintro⟨h,h0⟩;have h:=of_decide_eq_true h;by_cases hz0:z<0
     ·exfalso;rw [nj hz0] at h;rw [←h,Gb] at ho;cases ho
     ·right;refine⟨by omega, ?_⟩;rw [nj aa,←h,zX aa,Int.natAbs_neg]
  ·have ht:Lib.trimPrefix l [45]=l:=by
    unfold Lib.trimPrefix Lib.hasPrefix;cases l with
    |nil=>rfl
    |cons b l=>
     rw [if_neg];intro h;rw [List.isPrefixOf_cons_cons,Bool.and_eq_true] at h;exact Vy ⟨l,by rw [←eq_of_beq h.1]⟩
   rw [ht];rw [if_neg (fun h=>by
    cases l with
    |nil=>cases h
    |cons b t=>exact Vy ⟨t,by simp at h;rw [h]⟩)]
   simp only [cV];cases ho:dY l with
   |none=>rfl
   |some n=>
    simp only [Bool.false_and,Bool.not_false,Bool.and_true];rw [Bool.eq_iff_iff];simp only [Bool.or_eq_true,Bool.and_eq_true,decide_eq_true_eq];constructor
    ·rintro(h|⟨h0,h⟩)
     ·exact h
     ·rw [nj aa] at h;exact absurd ⟨_,h.symm⟩ Vy
    ·exact .inl
theorem xZ (s:ByteArray) (hs:s.size≤100000) (w:World) (hl:bu w):Calls Tryz.prog 73 #[.string s] w (iL (cI s.data.toList) w):=by
 have dW:s.data.toList.length=s.size:=ai;rw [RT];unfold Ed;by_cases hm:s.data.toList=nG
 ·rw [if_pos hm];exact H7 s hm w
 ·rw [if_neg hm];cases h:s.data.toList with
  |nil=>
   have h5:=dW;rw [h] at h5;rw [if_neg ai];have:=zu s hs hm (by simp at h5;omega) w hl;rw [h] at this;exact this
  |cons b t=>
   have h5:=dW;rw [h] at h5;simp only [List.length_cons] at h5;have cD:0<s.size:=aa;have hb:(s[0]'cD).toNat=b.toNat:=by
    have h2:s[0]'cD=s.data.toList[0]'(by rw [h];simp):=iM;rw [h2];simp [h]
   by_cases Vy:b=45
   ·subst Vy;have:=Bw s hs hm ⟨t.toArray⟩ kV w hl;rw [if_pos List.head?_cons];simpa using this
   ·have hc:((b.toNat:Int)==45)=false:=by
     cases e:((b.toNat:Int)==45) with
     |false=>rfl
     |true=>
      have:=eq_of_beq e;exact absurd (UInt8.toNat_inj.1 (by show b.toNat=45;omega)) Vy
    have:=zv s hs hm aa cD b.toNat hb hc w hl;rw [h] at this;rw [if_neg (by simpa using Vy)];exact this
end Go.Proofs.YtbgjanmheagilaaGreatDoor