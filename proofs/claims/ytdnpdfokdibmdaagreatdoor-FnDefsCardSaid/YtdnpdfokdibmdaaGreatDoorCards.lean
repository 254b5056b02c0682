/-
  DERIVED. GIVEN WITH THE SEED: THE CARDS: each row of YtdnpdfokdibmdaaGreatDoorRows.lean that lists a variable, with what it lists TIED to the program's text (the seventh form; the later family's looks); each row that meets fmt, with fmt's text TOLD by the authors' own Lean function (tested against real Go, not proved from fmt's source: count such statements apart). THE CARD IS WHAT COUNTS. Prove the row's statement (the work); the ties are given (YtdnpdfokdibmdaaGreatDoorTie.lean); close each card by the builder's one call (the guide's Derived/Test/ToyasCard.lean, 'card_holds'). Laid BY PROGRAM, IN A SANDBOX (cutbox-door.mjs). By AI agents, Wed Nov 11 2026. No macro, syntax, notation, axiom, sorry.
-/
import Derived.Test.YtdnpdfokdibmdaaGreatDoorRows
import GoSem.ClaimSeven
namespace Go.Proofs.YtdnpdfokdibmdaaGreatDoor
namespace Rows

/-- THE TIED CARD OF 'laws.FnDefs'. -/
def fnDefsCard : Claim7 := { stood := { row := fnDefsRow, standIns := [], harness := (true, "9a3a5d9cf00de6a099a1aa703914641026004373e278b6abffbde865842115e7"), looks := true }, kinds := [], alts := [], laidByText := true, laidKinds := [.data, .data, .data, .data, .sentinel, .sentinel, .pinned], laidTests := true, laidLooks := .later }
def FnDefsCardSaid : Prop := Claim7.holds Tryz.pinned (.plain (OpenSpec.ofChange fnDefsSpec)) fnDefsCard

/-- THE SECOND FORM's CARD OF 'laws.FnDefs'. -/
def fnDefsUptoCard : Claim7 := { stood := { row := fnDefsUptoRow, standIns := [], harness := (true, "9a3a5d9cf00de6a099a1aa703914641026004373e278b6abffbde865842115e7"), looks := true }, kinds := [], alts := [], laidByText := true, laidKinds := [.data, .data, .data, .data, .sentinel, .sentinel, .pinned], laidTests := true, laidLooks := .later }
def FnDefsUptoCardSaid : Prop := Claim7.holds Tryz.pinned (.plain (OpenSpec.upto fnDefsSpec)) fnDefsUptoCard
end Rows
end Go.Proofs.YtdnpdfokdibmdaaGreatDoor
