/- A part of the proof. Conditions: none. -/
import Derived.Test.YtjchnliaglecoaaGreatDoorZz
import Derived.Test.YtjchnliaglecoaaGreatDoorAmQX
import Derived.Test.YtjchnliaglecoaaGreatDoorShelf
set_option linter.unusedVariables false
set_option linter.unusedSimpArgs false
set_option maxRecDepth 100000
set_option maxHeartbeats 8000000
namespace Go.Proofs.YtjchnliaglecoaaGreatDoor
open Go Go.RowKit Go.Am
def isTrue:Value→Bool
 | .bool b=>b
 |_=>false
def qZ (f:Nat):Bool:=Nat.blt f 274 && !(Nat.beq f 0||Nat.beq f 1||Nat.beq f 152||Nat.beq f 191||Nat.beq f 223||Nat.beq f 230||Nat.beq f 271)
theorem DZ:((List.range 274).all fun f=> !qZ f||match Tryz.prog.funcs[f]? with
  | some fn => !(fn.name == "runtime.NumGoroutine") && !fn.body.isNone
  |none=>false)=true:=ah
theorem mL (f : Nat) (h : qZ f = true) : ∃ fn, Tryz.prog.funcs[f]? = some fn ∧ (fn.name == "runtime.NumGoroutine") = false ∧ fn.body.isNone = false := by
 have hlt:f<274:=by
  unfold qZ at h;simp only [Bool.and_eq_true] at h;have:=h.1;rw [blt_eq] at this;simpa using this
 have h1:=List.all_eq_true.1 DZ f (List.mem_range.2 hlt);rw [h] at h1;simp only [Bool.not_true,Bool.false_or] at h1;split at h1
 ·rename_i fn hf;simp only [Bool.and_eq_true,Bool.not_eq_true'] at h1;exact⟨fn,hf,h1.1,h1.2⟩
 ·cases h1
noncomputable def l6 (f:Nat) (vs:List Value):Option Value:=match vs with
 |[.string s,.string t]=>match t.data.toList with
  |[c]=>bif Nat.beq f 179 then some (.int .i64 (Lib.countByte s.data.toList c)) else none
  |_=>none
 |[.string s,.int .i32 r]=>bif Nat.beq f 225 && decide (0≤r) && decide (r<128) then some (.bool (decide (0≤Lib.indexByte s.data.toList r.toNat.toUInt8))) else none
 |_=>none
noncomputable def xL:Hk:=⟨qZ,fun _ _=>none,l6⟩
theorem MN (W0:World):Plain Tryz.prog xL W0 where
 x:=mL
 z:=fun f vs v h=>by cases h
 l:=fun f vs v h=>by
  change l6 f vs=some v at h;unfold l6 at h;split at h
  ·rename_i s t;split at h
   ·rename_i c hc;cases hb:Nat.beq f 179 with
    |false=>rw [hb] at h;cases h
    |true=>
     rw [hb] at h;cases h;have:=Nat.eq_of_beq_eq_true hb;subst this;obtain⟨⟨l⟩⟩:=t;simp only at hc;subst hc;exact⟨rfl,rfl,fun w _=>(Tryz.strings_Count_one s c w).mono fun e w' ⟨h1,h2⟩=>⟨h1,by rw [h2];exact Below.refl _ _⟩⟩
   ·cases h
  ·rename_i s r;cases hb:(Nat.beq f 225 && decide (0≤r) && decide (r<128)) with
   |false=>rw [hb] at h;cases h
   |true=>
    rw [hb] at h;cases h;simp only [Bool.and_eq_true,decide_eq_true_eq] at hb;obtain⟨⟨h1,h2⟩,h3⟩:=hb;have:=Nat.eq_of_beq_eq_true h1;subst this;exact⟨rfl,rfl,fun w _=>(Tryz.strings_ContainsRune_ascii s r w h2 h3).mono fun e w' ⟨h1,h2⟩=>⟨h1,by rw [h2];exact Below.refl _ _⟩⟩
  ·cases h
end Go.Proofs.YtjchnliaglecoaaGreatDoor