/- EraseScope: without types and labels there are as many variables and functions, used in as many places. Conditions: the tables are as the program's text lays them (tied). -/
import Derived.ProofKit
import Derived.OpenShut
import Derived.LaidMore
import Derived.Lay
import Derived.SevenTiedAt
import Derived.Stop.Joined
import Derived.Test.YtbgjanmheagilaaGreatDoorZz
import Derived.Test.YtbgjanmheagilaaGreatDoorOjX
import Derived.Test.YtbgjanmheagilaaGreatDoorLw
import Derived.Test.YtbgjanmheagilaaGreatDoorLift
import Derived.Test.YtbgjanmheagilaaGreatDoorTie
import Derived.Test.YtbgjanmheagilaaGreatDoorCards
set_option linter.unusedVariables false
set_option linter.unusedSimpArgs false
set_option maxRecDepth 100000
set_option maxHeartbeats 8000000
namespace Go.Proofs.YtbgjanmheagilaaGreatDoor
open Go Go.ChangeShapes Go.WideShapes Go.ChangeAt Go.RowKit Go.Nodes
theorem Tryz.own:ownKnob Tryz.prog.godebug=none:=by kernel_rfl
theorem Tryz.laidOut:laidOutB Tryz.prog=true:=by kernel_rfl
theorem qy (os:Os) (started:os.Started) (H:Type) (enc:TypeId × Value→H):
  ReturnsInHanded {} Tryz.checked os 4 .any (fun w args=>(Rows.eraseScopeSpec.pre enc Tryz.prog Tryz.f4 Rows.eraseScopeRow.domain false w args∧laidMetH Tryz.prog Rows.eraseScopeRow.laid w)∧sizedMet enc Tryz.prog Tryz.f4 (OpenSpec.ofChange Rows.eraseScopeSpec) false w args)
   (Rows.eraseScopeSpec.post enc Tryz.prog Tryz.f4 false true false false):=by
 refine wX (C:=Tryz.checked) (X:=fun w _=>laidMetH Tryz.prog Rows.eraseScopeRow.laid w) (fun _ _ _ hh h=>h.of_heap hh) Tryz.own started ak Tryz.func4
  (ChangeSpec.witness_shaped (enc:=enc) (C:=Tryz.checked) (os:=os) (X:=fun w _=>laidMetH Tryz.prog Rows.eraseScopeRow.laid w) false (World.laidAll Tryz.prog os Rows.eraseScopeRow.laid) #[.slice none 0 0] 8 (World.laidAll_os _ _ _)
   (World.shaped_of_ZipB ak ak) ak ak ak
   (by rw [MakeChecks.laidMetH_plain _ _ _ ak];exact laidMet_laidAll _ ak ak)) ?_
 intro W base args ds gs before aee hW hcnd aht hL yh _;have hsz:(DataW.weightsEach Tryz.prog (Tryz.f4.params.toList++Rows.eraseScopeSpec.plain.varTypes Tryz.prog) (ds++gs)).all (·≤reachBytes)=true:=aht;have hval:∀(j:Nat) t v,Tryz.f4.params[j]?=some t→args[j]?=some v→Value.okWide Tryz.prog W .any base t v:=aee;have Gx:=hW;have ahu:bu W:=by
  rw [MakeChecks.laidMetH_plain _ _ _ ak] at hL;exact Uf hL yh
 obtain⟨p,q,hA0,hV,rfl,hfz,Dw⟩:=hW;have hA:DataW.TrodAll enc Tryz.prog W 0 (fun _=>true) true Tryz.f4.params.toList args.toList ds p:=hA0;rw [Tryz.params4] at hA hval hsz;obtain⟨v0,d0,rfl,rfl,h0⟩:=trodAll_one hA;obtain⟨a0,c0,n0,rfl,AY,hs0,hc0⟩:=AJ (hval 0 22 v0 rfl rfl) h0 (fun z hz=>of_decide_eq_true (List.all_eq_true.1 hsz z (DataW.weights_mem_each (j:=0) rfl rfl z hz)));exact JE Tryz.laidOut ak rfl rfl Tryz.underlying4 Gx ⟨rfl,rfl,rfl⟩ (vM a0 c0 n0 W AY hs0 hc0 ahu)
theorem rL:Rows.EraseScopeSaid:=
 OpenClaim.holds_of_wide 4 Tryz.f4 rfl rfl rfl rfl rfl rfl rfl ⟨rfl,rfl,rfl,rfl,rfl⟩ rfl rfl rfl rfl rfl ak Tryz.func4 ak
  (of_decide_eq_true ak) (by unfold Func.isWrapper;first|(rw [if_pos cZ];kernel_rfl)|(rw [if_neg cZ];exact⟨rfl,rfl⟩))
  (fun os started H enc _=>qy os started H enc)
theorem eraseScope_card:Rows.EraseScopeCardSaid:=
 Claim7.holds_tied_plain_at .later [] [.data, .data, .data, .listed, .data] true (true, "e911dbca9362df7578afe1627d00f2dacb08b0ac86ed5cbde6842f0530ebb8df") true rL (fun _ h => by cases h) ak (fun _ h => by cases h) eraseScope_row_tie rfl ⟨rfl, rfl⟩ ak rfl
  (fun f fn hf hfn=>by
   obtain rfl:f=4:=Option.some.inj ((show Tryz.prog.funcNamed Rows.eraseScopeRow.func=some 4 by kernel_rfl).symm.trans hf)|>.symm
   obtain rfl:fn=Tryz.f4:=(Option.some.inj (Tryz.func4.symm.trans hfn)).symm;exact⟨by kernel_rfl,fun j t ht=>by
    rw [Tryz.params4] at ht;have hm:t∈[22]:=by simpa using Array.mem_of_getElem? ht
    have hall:([22].all fun u=> !Tryz.prog.wantsStandIn u)=true:=ak;exact(show Tryz.prog.wantsStandIn t=false by simpa using List.all_eq_true.1 hall t hm)⟩)
  ak
end Go.Proofs.YtbgjanmheagilaaGreatDoor