/-
  DERIVED. GIVEN WITH THE SEED: THE CARDS: each row of YtjocifamacpamaaDoorRows.lean that lists a variable, with what it lists TIED to the program's text (the seventh form; the later family's looks); each row that meets fmt, with fmt's text TOLD by the authors' own Lean function (tested against real Go, not proved from fmt's source: count such statements apart). THE CARD IS WHAT COUNTS. Prove the row's statement (the work); the ties are given (YtjocifamacpamaaDoorTie.lean); close each card by the builder's one call (the guide's Derived/Test/ToyasCard.lean, 'card_holds'). Laid BY PROGRAM, IN A SANDBOX (cutbox-door.mjs). By AI agents, Wed Nov 11 2026. No macro, syntax, notation, axiom, sorry.
-/
import Derived.Test.YtjocifamacpamaaDoorRows
import GoSem.ClaimSeven
namespace Go.Proofs.YtjocifamacpamaaDoor
namespace Rows

/-- THE TIED CARD OF 'ravelinlaw15.InstrShows'. -/
def instrShowsCard : Claim7 := { stood := { row := instrShowsRow, standIns := [], harness := (true, "515876b6411bd0d2af1007d5d8fcf6feeae8ca4269b93ae658cd324eb5a253d7"), looks := true }, kinds := [], alts := [], laidByText := true, laidKinds := [.data, .data, .data], laidTests := true, laidLooks := .later }
def InstrShowsCardSaid : Prop := Claim7.holds Tryd.pinned (.plain (OpenSpec.ofChange instrShowsSpec)) instrShowsCard

/-- THE TIED CARD OF 'ravelinlaw16.CodeShows'. -/
def codeShowsCard : Claim7 := { stood := { row := codeShowsRow, standIns := [], harness := (true, "515876b6411bd0d2af1007d5d8fcf6feeae8ca4269b93ae658cd324eb5a253d7"), looks := true }, kinds := [], alts := [], laidByText := true, laidKinds := [.data, .data, .data, .listed, .data], laidTests := true, laidLooks := .later }
def CodeShowsCardSaid : Prop := Claim7.holds Tryd.pinned (.plain (OpenSpec.ofChange codeShowsSpec)) codeShowsCard

/-- THE SECOND FORM's CARD OF 'ravelinlaw15.InstrShows'. -/
def instrShowsUptoCard : Claim7 := { stood := { row := instrShowsUptoRow, standIns := [], harness := (true, "515876b6411bd0d2af1007d5d8fcf6feeae8ca4269b93ae658cd324eb5a253d7"), looks := true }, kinds := [], alts := [], laidByText := true, laidKinds := [.data, .data, .data], laidTests := true, laidLooks := .later }
def InstrShowsUptoCardSaid : Prop := Claim7.holds Tryd.pinned (.plain (OpenSpec.upto instrShowsSpec)) instrShowsUptoCard

/-- THE SECOND FORM's CARD OF 'ravelinlaw16.CodeShows'. -/
def codeShowsUptoCard : Claim7 := { stood := { row := codeShowsUptoRow, standIns := [], harness := (true, "515876b6411bd0d2af1007d5d8fcf6feeae8ca4269b93ae658cd324eb5a253d7"), looks := true }, kinds := [], alts := [], laidByText := true, laidKinds := [.data, .data, .data, .listed, .data], laidTests := true, laidLooks := .later }
def CodeShowsUptoCardSaid : Prop := Claim7.holds Tryd.pinned (.plain (OpenSpec.upto codeShowsSpec)) codeShowsUptoCard
end Rows
end Go.Proofs.YtjocifamacpamaaDoor
