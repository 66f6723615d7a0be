/- ShowWrites: any program as a text. Conditions: the tables are as the program's text lays them (tied). -/
import Derived.ProofKit
import Derived.OpenShut
import Derived.LaidMore
import Derived.Lay
import Derived.SevenTiedAt
import Derived.Stop.Joined
import Derived.Test.YtjchnliaglecoaaGreatDoorZz
import Derived.Test.YtjchnliaglecoaaGreatDoorLsw
import Derived.Test.YtjchnliaglecoaaGreatDoorLw
import Derived.Test.YtjchnliaglecoaaGreatDoorLift
import Derived.Test.YtjchnliaglecoaaGreatDoorTie
import Derived.Test.YtjchnliaglecoaaGreatDoorCards
set_option linter.unusedVariables false
set_option linter.unusedSimpArgs false
set_option maxRecDepth 100000
set_option maxHeartbeats 8000000
namespace Go.Proofs.YtjchnliaglecoaaGreatDoor
open Go Go.ChangeShapes Go.WideShapes Go.ChangeAt Go.RowKit Go.Nodes
theorem Tryz.own:ownKnob Tryz.prog.godebug=none:=by kernel_rfl
theorem Tryz.laidOut:laidOutB Tryz.prog=true:=by kernel_rfl
theorem qA (os:Os) (started:os.Started) (H:Type) (enc:TypeId × Value→H):
  ReturnsInHanded {} Tryz.checked os 6 .any (fun w args=>(Rows.showWritesSpec.pre enc Tryz.prog Tryz.f6 Rows.showWritesRow.domain false w args∧laidMetH Tryz.prog Rows.showWritesRow.laid w)∧sizedMet enc Tryz.prog Tryz.f6 (OpenSpec.ofChange Rows.showWritesSpec) false w args)
   (Rows.showWritesSpec.post enc Tryz.prog Tryz.f6 false true false false):=by
 refine wN (C:=Tryz.checked) (X:=fun w _=>laidMetH Tryz.prog Rows.showWritesRow.laid w) (fun _ _ _ hh h=>h.of_heap hh) Tryz.own started ah Tryz.func6
  (ChangeSpec.witness_shaped (enc:=enc) (C:=Tryz.checked) (os:=os) (X:=fun w _=>laidMetH Tryz.prog Rows.showWritesRow.laid w) false (World.laidAll Tryz.prog os Rows.showWritesRow.laid) #[.slice none 0 0] 8 (World.laidAll_os _ _ _)
   (World.shaped_of_ZipB ah ah) ah ah ah
   (by rw [MakeChecks.laidMetH_plain _ _ _ ah];exact laidMet_laidAll _ ah ah)) ?_
 intro W base args ds gs before ahR hW hcnd Uu hL rW _;have hsz:(DataW.weightsEach Tryz.prog (Tryz.f6.params.toList++Rows.showWritesSpec.plain.varTypes Tryz.prog) (ds++gs)).all (·≤reachBytes)=true:=Uu;have hval:∀(j:Nat) t v,Tryz.f6.params[j]?=some t→args[j]?=some v→Value.okWide Tryz.prog W .any base t v:=ahR;have Fy:=hW;have akY:cu W:=by
  rw [MakeChecks.laidMetH_plain _ _ _ ah] at hL;exact Xg hL rW
 obtain⟨p,q,hA0,hV,rfl,hfz,Je⟩:=hW;have hA:DataW.TrodAll enc Tryz.prog W 0 (fun _=>true) true Tryz.f6.params.toList args.toList ds p:=hA0;rw [Tryz.params6] at hA hval hsz;obtain⟨v0,d0,rfl,rfl,h0⟩:=trodAll_one hA;obtain⟨a0,c0,n0,rfl,Aw,hs0,hc0⟩:=Aq (hval 0 22 v0 rfl rfl) h0 (fun z hz=>of_decide_eq_true (List.all_eq_true.1 hsz z (DataW.weights_mem_each (j:=0) rfl rfl z hz)));exact I6 Tryz.laidOut ah rfl rfl Tryz.underlying4 Fy ⟨rfl,rfl,rfl⟩ (P1 a0 c0 n0 W Aw hs0 hc0 akY)
theorem rH:Rows.ShowWritesSaid:=
 OpenClaim.holds_of_wide 6 Tryz.f6 rfl rfl rfl rfl rfl rfl rfl ⟨rfl,rfl,rfl,rfl,rfl⟩ rfl rfl rfl rfl rfl ah Tryz.func6 ah
  (of_decide_eq_true ah) (by unfold Func.isWrapper;first|(rw [if_pos ew];kernel_rfl)|(rw [if_neg ew];exact⟨rfl,rfl⟩))
  (fun os started H enc _=>qA os started H enc)
theorem showWrites_card:Rows.ShowWritesCardSaid:=
 Claim7.holds_tied_plain_at .later [] [.data, .data, .data, .listed, .data] true (true, "8d48578d174c5bcdd44efa70a8495cf3ff7cda0aa7e3b2420f8c3cd9f361a945") true rH (fun _ h => by cases h) ah (fun _ h => by cases h) showWrites_row_tie rfl ⟨rfl, rfl⟩ ah rfl
  (fun f fn hf hfn=>by
   obtain rfl:f=6:=Option.some.inj ((show Tryz.prog.funcNamed Rows.showWritesRow.func=some 6 by kernel_rfl).symm.trans hf)|>.symm
   obtain rfl:fn=Tryz.f6:=(Option.some.inj (Tryz.func6.symm.trans hfn)).symm;exact⟨by kernel_rfl,fun j t ht=>by
    rw [Tryz.params6] at ht;have hm:t∈[22]:=by simpa using Array.mem_of_getElem? ht
    have hall:([22].all fun u=> !Tryz.prog.wantsStandIn u)=true:=ah;exact(show Tryz.prog.wantsStandIn t=false by simpa using List.all_eq_true.1 hall t hm)⟩)
  ah
end Go.Proofs.YtjchnliaglecoaaGreatDoor