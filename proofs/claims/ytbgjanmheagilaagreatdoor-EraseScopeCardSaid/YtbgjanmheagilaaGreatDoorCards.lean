/-
  DERIVED. GIVEN WITH THE SEED: THE CARDS: each row of YtbgjanmheagilaaGreatDoorRows.lean that lists a variable, with what it lists TIED to the program's text (the seventh form; the later family's looks); each row that meets fmt, with fmt's text TOLD by the authors' own Lean function (tested against real Go, not proved from fmt's source: count such statements apart). THE CARD IS WHAT COUNTS. Prove the row's statement (the work); the ties are given (YtbgjanmheagilaaGreatDoorTie.lean); close each card by the builder's one call (the guide's Derived/Test/ToyasCard.lean, 'card_holds'). Laid BY PROGRAM, IN A SANDBOX (cutbox-door.mjs). By AI agents, Wed Nov 11 2026. No macro, syntax, notation, axiom, sorry.
-/
import Derived.Test.YtbgjanmheagilaaGreatDoorRows
import GoSem.ClaimSeven
namespace Go.Proofs.YtbgjanmheagilaaGreatDoor
namespace Rows

/-- THE TIED CARD OF 'ravelinlaw14.EraseLeaves'. -/
def eraseLeavesCard : Claim7 := { stood := { row := eraseLeavesRow, standIns := [], harness := (true, "e911dbca9362df7578afe1627d00f2dacb08b0ac86ed5cbde6842f0530ebb8df"), looks := true }, kinds := [], alts := [], laidByText := true, laidKinds := [.data, .data, .data, .listed, .data], laidTests := true, laidLooks := .later }
def EraseLeavesCardSaid : Prop := Claim7.holds Tryz.pinned (.plain (OpenSpec.ofChange eraseLeavesSpec)) eraseLeavesCard

/-- THE TIED CARD OF 'ravelinlaw14.EraseScope'. -/
def eraseScopeCard : Claim7 := { stood := { row := eraseScopeRow, standIns := [], harness := (true, "e911dbca9362df7578afe1627d00f2dacb08b0ac86ed5cbde6842f0530ebb8df"), looks := true }, kinds := [], alts := [], laidByText := true, laidKinds := [.data, .data, .data, .listed, .data], laidTests := true, laidLooks := .later }
def EraseScopeCardSaid : Prop := Claim7.holds Tryz.pinned (.plain (OpenSpec.ofChange eraseScopeSpec)) eraseScopeCard

/-- THE TIED CARD OF 'ravelinlaw14.EraseLabels'. -/
def eraseLabelsCard : Claim7 := { stood := { row := eraseLabelsRow, standIns := [], harness := (true, "e911dbca9362df7578afe1627d00f2dacb08b0ac86ed5cbde6842f0530ebb8df"), looks := true }, kinds := [], alts := [], laidByText := true, laidKinds := [.data, .data, .data, .listed, .data], laidTests := true, laidLooks := .later }
def EraseLabelsCardSaid : Prop := Claim7.holds Tryz.pinned (.plain (OpenSpec.ofChange eraseLabelsSpec)) eraseLabelsCard

/-- THE TIED CARD OF 'ravelinlaw11.ScopeHolds'. -/
def scopeHoldsCard : Claim7 := { stood := { row := scopeHoldsRow, standIns := [], harness := (true, "e911dbca9362df7578afe1627d00f2dacb08b0ac86ed5cbde6842f0530ebb8df"), looks := true }, kinds := [], alts := [], laidByText := true, laidKinds := [.data, .data, .data, .listed, .data], laidTests := true, laidLooks := .later }
def ScopeHoldsCardSaid : Prop := Claim7.holds Tryz.pinned (.plain (OpenSpec.ofChange scopeHoldsSpec)) scopeHoldsCard

/-- THE TIED CARD OF 'ravelinlaw11.ScopeEnds'. -/
def scopeEndsCard : Claim7 := { stood := { row := scopeEndsRow, standIns := [], harness := (true, "e911dbca9362df7578afe1627d00f2dacb08b0ac86ed5cbde6842f0530ebb8df"), looks := true }, kinds := [], alts := [], laidByText := true, laidKinds := [.data, .data, .data, .listed, .data], laidTests := true, laidLooks := .later }
def ScopeEndsCardSaid : Prop := Claim7.holds Tryz.pinned (.plain (OpenSpec.ofChange scopeEndsSpec)) scopeEndsCard

/-- THE SECOND FORM's CARD OF 'ravelinlaw14.EraseLeaves'. -/
def eraseLeavesUptoCard : Claim7 := { stood := { row := eraseLeavesUptoRow, standIns := [], harness := (true, "e911dbca9362df7578afe1627d00f2dacb08b0ac86ed5cbde6842f0530ebb8df"), looks := true }, kinds := [], alts := [], laidByText := true, laidKinds := [.data, .data, .data, .listed, .data], laidTests := true, laidLooks := .later }
def EraseLeavesUptoCardSaid : Prop := Claim7.holds Tryz.pinned (.plain (OpenSpec.upto eraseLeavesSpec)) eraseLeavesUptoCard

/-- THE SECOND FORM's CARD OF 'ravelinlaw14.EraseScope'. -/
def eraseScopeUptoCard : Claim7 := { stood := { row := eraseScopeUptoRow, standIns := [], harness := (true, "e911dbca9362df7578afe1627d00f2dacb08b0ac86ed5cbde6842f0530ebb8df"), looks := true }, kinds := [], alts := [], laidByText := true, laidKinds := [.data, .data, .data, .listed, .data], laidTests := true, laidLooks := .later }
def EraseScopeUptoCardSaid : Prop := Claim7.holds Tryz.pinned (.plain (OpenSpec.upto eraseScopeSpec)) eraseScopeUptoCard

/-- THE SECOND FORM's CARD OF 'ravelinlaw14.EraseLabels'. -/
def eraseLabelsUptoCard : Claim7 := { stood := { row := eraseLabelsUptoRow, standIns := [], harness := (true, "e911dbca9362df7578afe1627d00f2dacb08b0ac86ed5cbde6842f0530ebb8df"), looks := true }, kinds := [], alts := [], laidByText := true, laidKinds := [.data, .data, .data, .listed, .data], laidTests := true, laidLooks := .later }
def EraseLabelsUptoCardSaid : Prop := Claim7.holds Tryz.pinned (.plain (OpenSpec.upto eraseLabelsSpec)) eraseLabelsUptoCard

/-- THE SECOND FORM's CARD OF 'ravelinlaw11.ScopeHolds'. -/
def scopeHoldsUptoCard : Claim7 := { stood := { row := scopeHoldsUptoRow, standIns := [], harness := (true, "e911dbca9362df7578afe1627d00f2dacb08b0ac86ed5cbde6842f0530ebb8df"), looks := true }, kinds := [], alts := [], laidByText := true, laidKinds := [.data, .data, .data, .listed, .data], laidTests := true, laidLooks := .later }
def ScopeHoldsUptoCardSaid : Prop := Claim7.holds Tryz.pinned (.plain (OpenSpec.upto scopeHoldsSpec)) scopeHoldsUptoCard

/-- THE SECOND FORM's CARD OF 'ravelinlaw11.ScopeEnds'. -/
def scopeEndsUptoCard : Claim7 := { stood := { row := scopeEndsUptoRow, standIns := [], harness := (true, "e911dbca9362df7578afe1627d00f2dacb08b0ac86ed5cbde6842f0530ebb8df"), looks := true }, kinds := [], alts := [], laidByText := true, laidKinds := [.data, .data, .data, .listed, .data], laidTests := true, laidLooks := .later }
def ScopeEndsUptoCardSaid : Prop := Claim7.holds Tryz.pinned (.plain (OpenSpec.upto scopeEndsSpec)) scopeEndsUptoCard
end Rows
end Go.Proofs.YtbgjanmheagilaaGreatDoor
