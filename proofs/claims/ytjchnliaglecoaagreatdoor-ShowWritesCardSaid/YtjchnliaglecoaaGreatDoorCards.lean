/-
  DERIVED. GIVEN WITH THE SEED: THE CARDS: each row of YtjchnliaglecoaaGreatDoorRows.lean that lists a variable, with what it lists TIED to the program's text (the seventh form; the later family's looks); each row that meets fmt, with fmt's text TOLD by the authors' own Lean function (tested against real Go, not proved from fmt's source: count such statements apart). THE CARD IS WHAT COUNTS. Prove the row's statement (the work); the ties are given (YtjchnliaglecoaaGreatDoorTie.lean); close each card by the builder's one call (the guide's Derived/Test/ToyasCard.lean, 'card_holds'). Laid BY PROGRAM, IN A SANDBOX (cutbox-door.mjs). By AI agents, Wed Nov 11 2026. No macro, syntax, notation, axiom, sorry.
-/
import Derived.Test.YtjchnliaglecoaaGreatDoorRows
import GoSem.ClaimSeven
namespace Go.Proofs.YtjchnliaglecoaaGreatDoor
namespace Rows

/-- THE TIED CARD OF 'ravelinlaw12.NarrowTests'. -/
def narrowTestsCard : Claim7 := { stood := { row := narrowTestsRow, standIns := [], harness := (true, "8d48578d174c5bcdd44efa70a8495cf3ff7cda0aa7e3b2420f8c3cd9f361a945"), looks := true }, kinds := [], alts := [], laidByText := true, laidKinds := [.data, .data, .data, .listed, .data], laidTests := true, laidLooks := .later }
def NarrowTestsCardSaid : Prop := Claim7.holds Tryz.pinned (.plain (OpenSpec.ofChange narrowTestsSpec)) narrowTestsCard

/-- THE TIED CARD OF 'ravelinlaw12.NarrowOther'. -/
def narrowOtherCard : Claim7 := { stood := { row := narrowOtherRow, standIns := [], harness := (true, "8d48578d174c5bcdd44efa70a8495cf3ff7cda0aa7e3b2420f8c3cd9f361a945"), looks := true }, kinds := [], alts := [], laidByText := true, laidKinds := [.data, .data, .data, .listed, .data], laidTests := true, laidLooks := .later }
def NarrowOtherCardSaid : Prop := Claim7.holds Tryz.pinned (.plain (OpenSpec.ofChange narrowOtherSpec)) narrowOtherCard

/-- THE TIED CARD OF 'ravelinlaw12.NarrowSound'. -/
def narrowSoundCard : Claim7 := { stood := { row := narrowSoundRow, standIns := [], harness := (true, "8d48578d174c5bcdd44efa70a8495cf3ff7cda0aa7e3b2420f8c3cd9f361a945"), looks := true }, kinds := [], alts := [], laidByText := true, laidKinds := [.data, .data, .data, .listed, .data], laidTests := true, laidLooks := .later }
def NarrowSoundCardSaid : Prop := Claim7.holds Tryz.pinned (.plain (OpenSpec.ofChange narrowSoundSpec)) narrowSoundCard

/-- THE TIED CARD OF 'ravelinlaw08.ShowWrites'. -/
def showWritesCard : Claim7 := { stood := { row := showWritesRow, standIns := [], harness := (true, "8d48578d174c5bcdd44efa70a8495cf3ff7cda0aa7e3b2420f8c3cd9f361a945"), looks := true }, kinds := [], alts := [], laidByText := true, laidKinds := [.data, .data, .data, .listed, .data], laidTests := true, laidLooks := .later }
def ShowWritesCardSaid : Prop := Claim7.holds Tryz.pinned (.plain (OpenSpec.ofChange showWritesSpec)) showWritesCard

/-- THE TIED CARD OF 'ravelinlaw08.ShowLisp'. -/
def showLispCard : Claim7 := { stood := { row := showLispRow, standIns := [], harness := (true, "8d48578d174c5bcdd44efa70a8495cf3ff7cda0aa7e3b2420f8c3cd9f361a945"), looks := true }, kinds := [], alts := [], laidByText := true, laidKinds := [.data, .data, .data, .listed, .data], laidTests := true, laidLooks := .later }
def ShowLispCardSaid : Prop := Claim7.holds Tryz.pinned (.plain (OpenSpec.ofChange showLispSpec)) showLispCard

/-- THE SECOND FORM's CARD OF 'ravelinlaw12.NarrowTests'. -/
def narrowTestsUptoCard : Claim7 := { stood := { row := narrowTestsUptoRow, standIns := [], harness := (true, "8d48578d174c5bcdd44efa70a8495cf3ff7cda0aa7e3b2420f8c3cd9f361a945"), looks := true }, kinds := [], alts := [], laidByText := true, laidKinds := [.data, .data, .data, .listed, .data], laidTests := true, laidLooks := .later }
def NarrowTestsUptoCardSaid : Prop := Claim7.holds Tryz.pinned (.plain (OpenSpec.upto narrowTestsSpec)) narrowTestsUptoCard

/-- THE SECOND FORM's CARD OF 'ravelinlaw12.NarrowOther'. -/
def narrowOtherUptoCard : Claim7 := { stood := { row := narrowOtherUptoRow, standIns := [], harness := (true, "8d48578d174c5bcdd44efa70a8495cf3ff7cda0aa7e3b2420f8c3cd9f361a945"), looks := true }, kinds := [], alts := [], laidByText := true, laidKinds := [.data, .data, .data, .listed, .data], laidTests := true, laidLooks := .later }
def NarrowOtherUptoCardSaid : Prop := Claim7.holds Tryz.pinned (.plain (OpenSpec.upto narrowOtherSpec)) narrowOtherUptoCard

/-- THE SECOND FORM's CARD OF 'ravelinlaw12.NarrowSound'. -/
def narrowSoundUptoCard : Claim7 := { stood := { row := narrowSoundUptoRow, standIns := [], harness := (true, "8d48578d174c5bcdd44efa70a8495cf3ff7cda0aa7e3b2420f8c3cd9f361a945"), looks := true }, kinds := [], alts := [], laidByText := true, laidKinds := [.data, .data, .data, .listed, .data], laidTests := true, laidLooks := .later }
def NarrowSoundUptoCardSaid : Prop := Claim7.holds Tryz.pinned (.plain (OpenSpec.upto narrowSoundSpec)) narrowSoundUptoCard

/-- THE SECOND FORM's CARD OF 'ravelinlaw08.ShowWrites'. -/
def showWritesUptoCard : Claim7 := { stood := { row := showWritesUptoRow, standIns := [], harness := (true, "8d48578d174c5bcdd44efa70a8495cf3ff7cda0aa7e3b2420f8c3cd9f361a945"), looks := true }, kinds := [], alts := [], laidByText := true, laidKinds := [.data, .data, .data, .listed, .data], laidTests := true, laidLooks := .later }
def ShowWritesUptoCardSaid : Prop := Claim7.holds Tryz.pinned (.plain (OpenSpec.upto showWritesSpec)) showWritesUptoCard

/-- THE SECOND FORM's CARD OF 'ravelinlaw08.ShowLisp'. -/
def showLispUptoCard : Claim7 := { stood := { row := showLispUptoRow, standIns := [], harness := (true, "8d48578d174c5bcdd44efa70a8495cf3ff7cda0aa7e3b2420f8c3cd9f361a945"), looks := true }, kinds := [], alts := [], laidByText := true, laidKinds := [.data, .data, .data, .listed, .data], laidTests := true, laidLooks := .later }
def ShowLispUptoCardSaid : Prop := Claim7.holds Tryz.pinned (.plain (OpenSpec.upto showLispSpec)) showLispUptoCard
end Rows
end Go.Proofs.YtjchnliaglecoaaGreatDoor
