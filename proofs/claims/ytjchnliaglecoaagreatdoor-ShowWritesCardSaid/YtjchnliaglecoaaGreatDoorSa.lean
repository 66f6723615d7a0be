/- A part of the proof. Conditions: none. -/
import Derived.Test.YtjchnliaglecoaaGreatDoorZz
import Derived.Test.YtjchnliaglecoaaGreatDoorLbX
set_option linter.unusedVariables false
set_option linter.unusedSimpArgs false
set_option maxRecDepth 100000
set_option maxHeartbeats 8000000
namespace Go.Proofs.YtjchnliaglecoaaGreatDoor
open Go Go.RowKit Go.Nodes
def isAtom (k:Nat):Bool:=[17,18,19,20,21,13,14,15,16,24].contains k
theorem P0:((List.range 37).all fun k=>lW 239 [.int .i64 k] (.bool (isAtom k)))=true:=by kernel_rfl
theorem VL (k:Nat) (hk:k<37) (w:World):Calls Tryz.prog 239 #[.int .i64 (k:Int)] w fun e w'=>e=.returned (.bool (isAtom k))∧Below w.heap.size w w':=wC P0 k hk w
def gF (s:ByteArray):ByteArray:=if(s.toList==[45,57,50,50,51,51,55,50,48,51,54,56,53,52,55,55,53,56,48,56])=true then⟨#[48,120,56,48,48,48,48,48,48,48,48,48,48,48,48,48,48,48]⟩ else s
theorem KS (s:ByteArray) (w:World):Calls Tryz.prog 48 #[.string s] w fun e w'=>e=.returned (.string (gF s))∧w'=w:=by
 obtain⟨t,ht⟩:∃t,t=gF s:=⟨_,rfl⟩;rw [←ht];unfold gF at ht;have Ht:=hid ht;clear ht;cases h:(s.toList==[45,57,50,50,51,51,55,50,48,51,54,56,53,52,55,55,53,56,48,56]) with
 |true=>
  go_enter Tryz.func48,Tryz.ntmps48;go_wp2;go_ret;exact⟨by rw [Ht.out,if_pos h];rfl,rfl⟩
 |false=>
  go_enter Tryz.func48,Tryz.ntmps48;go_wp2;go_ret;exact⟨by rw [Ht.out,if_neg (by rw [h];decide)];rfl,rfl⟩
theorem PB (s:ByteArray) (w:World):Calls Tryz.prog 45 #[.string s] w fun e w'=>e=.returned (.string (gF s))∧w'=w:=by
 obtain⟨t,ht⟩:∃t,t=gF s:=⟨_,rfl⟩;rw [←ht];unfold gF at ht;have Ht:=hid ht;clear ht;cases h:(s.toList==[45,57,50,50,51,51,55,50,48,51,54,56,53,52,55,55,53,56,48,56]) with
 |true=>
  go_enter Tryz.func45,Tryz.ntmps45;go_wp2;go_ret;exact⟨by rw [Ht.out,if_pos h];rfl,rfl⟩
 |false=>
  go_enter Tryz.func45,Tryz.ntmps45;go_wp2;go_ret;exact⟨by rw [Ht.out,if_neg (by rw [h];decide)];rfl,rfl⟩
def bP:Nat→ByteArray
 |0=>⟨#[]⟩
 |d+1=>bP d++⟨#[32,32]⟩
theorem gM:∀d,(bP d).size=2*d
 |0=>rfl
 |d+1=>by unfold bP;rw [ByteArray.size_append,gM d];simp only [ByteArray.size,List.size_toArray,List.length_cons,List.length_nil];omega
theorem FW (d:Nat) (hd:d≤100000) (w:World):Calls Tryz.prog 96 #[.int .i64 (d:Int)] w fun e w'=>e=.returned (.string (bP d))∧w'=w:=by
 have QE:(d:Int)≤100000:=aa;go_enter Tryz.func96,Tryz.ntmps96;go_wp2;go_loopw [3,4] (fun sv iv wr=>∃i:Nat,i≤d∧sv=.string (bP i)∧iv=.int .i64 (i:Int)∧wr=w) (fun _ iv _=>d - (intOf iv).toNat)
 case atStart=>exact⟨0,Nat.zero_le _,rfl,rfl,rfl⟩
 case round=>
  obtain⟨i,hi,rfl,rfl,rfl⟩:=hrel;by_cases hlt:i<d
  ·have h1:(i:Int)<(d:Int):=by omega
   have hs:=gM i;go_wp2;exact⟨⟨i+1,by omega,rfl,by go_num,trivial⟩,by simp [intOf];omega⟩
  ·obtain rfl:i=d:=by omega
   go_wp2;go_ret;exact⟨rfl,rfl⟩
end Go.Proofs.YtjchnliaglecoaaGreatDoor