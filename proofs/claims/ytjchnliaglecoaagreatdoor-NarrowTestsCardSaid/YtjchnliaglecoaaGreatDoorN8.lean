/- NarrowTests: what any condition of any program tells. Conditions: the tables are as the program's text lays them (tied). -/
import Derived.Test.YtjchnliaglecoaaGreatDoorZz
import Derived.Test.YtjchnliaglecoaaGreatDoorPv
import Derived.Test.YtjchnliaglecoaaGreatDoorLw
import Derived.Test.YtjchnliaglecoaaGreatDoorLift
import Derived.Test.YtjchnliaglecoaaGreatDoorTie
import Derived.Test.YtjchnliaglecoaaGreatDoorCards
import Derived.ProofKit
import Derived.OpenShut
import Derived.LaidMore
import Derived.Lay
import Derived.SevenTiedAt
import Derived.Stop.Joined
set_option linter.unusedVariables false
set_option linter.unusedSimpArgs false
set_option maxRecDepth 100000
set_option maxHeartbeats 8000000
namespace Go.Proofs.YtjchnliaglecoaaGreatDoor
open Go Go.ChangeShapes Go.WideShapes Go.ChangeAt Go.RowKit Go.Nodes
theorem Tryz.own:ownKnob Tryz.prog.godebug=none:=by kernel_rfl
theorem Tryz.laidOut:laidOutB Tryz.prog=true:=by kernel_rfl
theorem sW (os:Os) (started:os.Started) (H:Type) (enc:TypeId × Value→H):
  ReturnsInHanded {} Tryz.checked os 3 .any (fun w args=>(Rows.narrowTestsSpec.pre enc Tryz.prog Tryz.f3 Rows.narrowTestsRow.domain false w args∧laidMetH Tryz.prog Rows.narrowTestsRow.laid w)∧sizedMet enc Tryz.prog Tryz.f3 (OpenSpec.ofChange Rows.narrowTestsSpec) false w args)
   (Rows.narrowTestsSpec.post enc Tryz.prog Tryz.f3 false true false false):=by
 refine qX (C:=Tryz.checked) (X:=fun w _=>laidMetH Tryz.prog Rows.narrowTestsRow.laid w) (fun _ _ _ hh h=>h.of_heap hh) Tryz.own started ai Tryz.func3
  (ChangeSpec.witness_shaped (enc:=enc) (C:=Tryz.checked) (os:=os) (X:=fun w _=>laidMetH Tryz.prog Rows.narrowTestsRow.laid w) false (World.laidAll Tryz.prog os Rows.narrowTestsRow.laid) #[.slice none 0 0,.int .i64 0,.bool false] 8 (World.laidAll_os _ _ _)
   (World.shaped_of_ZipB ai ai) ai ai ai
   (by rw [MakeChecks.laidMetH_plain _ _ _ ai];exact laidMet_laidAll _ ai ai)) ?_
 intro W base args ds gs before O7 hW hcnd agh hL Ah _;have hsz:(DataW.weightsEach Tryz.prog (Tryz.f3.params.toList++Rows.narrowTestsSpec.plain.varTypes Tryz.prog) (ds++gs)).all (·≤reachBytes)=true:=agh;have hval:∀(j:Nat) t v,Tryz.f3.params[j]?=some t→args[j]?=some v→Value.okWide Tryz.prog W .any base t v:=O7;have Il:=hW;have agi:bZ W:=by
  rw [MakeChecks.laidMetH_plain _ _ _ ai] at hL;exact K7 hL Ah
 obtain⟨p,q,hA0,hV,rfl,hfz,CG⟩:=hW;have hA:DataW.TrodAll enc Tryz.prog W 0 (fun _=>true) true Tryz.f3.params.toList args.toList ds p:=hA0;rw [Tryz.params3] at hA hval hsz;obtain⟨v0,v1,v2,d0,d1,d2,p0,p1,p2,rfl,rfl,rfl,h0,h1,h2⟩:=trodAll_three hA;obtain⟨a0,c0,n0,rfl,xR,hs0,hc0⟩:=tv (hval 0 22 v0 rfl rfl) h0 (fun z hz=>of_decide_eq_true (List.all_eq_true.1 hsz z (DataW.weights_mem_each (j:=0) rfl rfl z hz)));obtain⟨n1,rfl⟩:=okWide_int Tryz.underlying3 (hval 1 3 v1 rfl rfl);obtain⟨b2,rfl⟩:=okWide_bool Tryz.underlying4 (hval 2 4 v2 rfl rfl);exact A5 Tryz.laidOut ai rfl rfl Tryz.underlying4 Il ⟨rfl,rfl,rfl⟩ (SI a0 c0 n0 n1 b2 W xR hs0 hc0 agi)
theorem uC:Rows.NarrowTestsSaid:=
 OpenClaim.holds_of_wide 3 Tryz.f3 rfl rfl rfl rfl rfl rfl rfl ⟨rfl,rfl,rfl,rfl,rfl⟩ rfl rfl rfl rfl rfl ai Tryz.func3 ai
  (of_decide_eq_true ai) (by unfold Func.isWrapper;first|(rw [if_pos eV];kernel_rfl)|(rw [if_neg eV];exact⟨rfl,rfl⟩))
  (fun os started H enc _=>sW os started H enc)
theorem narrowTests_card:Rows.NarrowTestsCardSaid:=
 Claim7.holds_tied_plain_at .later [] [.data, .data, .data, .listed, .data] true (true, "8d48578d174c5bcdd44efa70a8495cf3ff7cda0aa7e3b2420f8c3cd9f361a945") true uC (fun _ h => by cases h) ai (fun _ h => by cases h) narrowTests_row_tie rfl ⟨rfl, rfl⟩ ai rfl
  (fun f fn hf hfn=>by
   obtain rfl:f=3:=Option.some.inj ((show Tryz.prog.funcNamed Rows.narrowTestsRow.func=some 3 by kernel_rfl).symm.trans hf)|>.symm
   obtain rfl:fn=Tryz.f3:=(Option.some.inj (Tryz.func3.symm.trans hfn)).symm;exact⟨by kernel_rfl,fun j t ht=>by
    rw [Tryz.params3] at ht;have hm:t∈[22,3,4]:=by simpa using Array.mem_of_getElem? ht
    have hall:([22,3,4].all fun u=> !Tryz.prog.wantsStandIn u)=true:=ai;exact(show Tryz.prog.wantsStandIn t=false by simpa using List.all_eq_true.1 hall t hm)⟩)
  ai
end Go.Proofs.YtjchnliaglecoaaGreatDoor
