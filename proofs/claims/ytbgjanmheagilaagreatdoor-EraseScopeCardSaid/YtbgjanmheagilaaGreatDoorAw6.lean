/- A part of the proof. Conditions: none. -/
import Derived.Test.YtbgjanmheagilaaGreatDoorZz
import Derived.Test.YtbgjanmheagilaaGreatDoorAmQX
import Derived.Test.YtbgjanmheagilaaGreatDoorShelf
set_option linter.unusedVariables false
set_option linter.unusedSimpArgs false
set_option maxRecDepth 100000
set_option maxHeartbeats 8000000
namespace Go.Proofs.YtbgjanmheagilaaGreatDoor
open Go Go.RowKit Go.Am
def isTrue:Value→Bool
 | .bool b=>b
 |_=>false
def rJ (f:Nat):Bool:=Nat.blt f 191 && !(Nat.beq f 0||Nat.beq f 1||Nat.beq f 153)
theorem FK:((List.range 191).all fun f=> !rJ f||match Tryz.prog.funcs[f]? with
  | some fn => !(fn.name == "runtime.NumGoroutine") && !fn.body.isNone
  |none=>false)=true:=ak
theorem mY (f : Nat) (h : rJ f = true) : ∃ fn, Tryz.prog.funcs[f]? = some fn ∧ (fn.name == "runtime.NumGoroutine") = false ∧ fn.body.isNone = false := by
 have hlt:f<191:=by
  unfold rJ at h;simp only [Bool.and_eq_true] at h;have:=h.1;rw [blt_eq] at this;simpa using this
 have h1:=List.all_eq_true.1 FK f (List.mem_range.2 hlt);rw [h] at h1;simp only [Bool.not_true,Bool.false_or] at h1;split at h1
 ·rename_i fn hf;simp only [Bool.and_eq_true,Bool.not_eq_true'] at h1;exact⟨fn,hf,h1.1,h1.2⟩
 ·cases h1
noncomputable def l6 (f:Nat) (vs:List Value):Option Value:=match vs with
 |[.string s,.string t]=>match t.data.toList with
  |[c]=>bif Nat.beq f 121 then some (.int .i64 (Lib.countByte s.data.toList c)) else none
  |_=>none
 |[.string s,.int .i32 r]=>bif Nat.beq f 155 && decide (0≤r) && decide (r<128) then some (.bool (decide (0≤Lib.indexByte s.data.toList r.toNat.toUInt8))) else none
 |_=>none
noncomputable def hk6:Hk:=⟨rJ,fun _ _=>none,l6⟩
theorem Md (W0:World):Plain Tryz.prog hk6 W0 where
 x:=mY
 z:=fun f vs v h=>by cases h
 l:=fun f vs v h=>by
  change l6 f vs=some v at h;unfold l6 at h;split at h
  ·rename_i s t;split at h
   ·rename_i c hc;cases hb:Nat.beq f 121 with
    |false=>rw [hb] at h;cases h
    |true=>
     rw [hb] at h;cases h;have:=Nat.eq_of_beq_eq_true hb;subst this;obtain⟨⟨l⟩⟩:=t;simp only at hc;subst hc;exact⟨rfl,rfl,fun w _=>(Tryz.strings_Count_one s c w).mono fun e w' ⟨h1,h2⟩=>⟨h1,by rw [h2];exact Below.refl _ _⟩⟩
   ·cases h
  ·rename_i s r;cases hb:(Nat.beq f 155 && decide (0≤r) && decide (r<128)) with
   |false=>rw [hb] at h;cases h
   |true=>
    rw [hb] at h;cases h;simp only [Bool.and_eq_true,decide_eq_true_eq] at hb;obtain⟨⟨h1,h2⟩,h3⟩:=hb;have:=Nat.eq_of_beq_eq_true h1;subst this;exact⟨rfl,rfl,fun w _=>(Tryz.strings_ContainsRune_ascii s r w h2 h3).mono fun e w' ⟨h1,h2⟩=>⟨h1,by rw [h2];exact Below.refl _ _⟩⟩
  ·cases h
end Go.Proofs.YtbgjanmheagilaaGreatDoor