/-
  DERIVED. GIVEN WITH THE SEED: THE CARDS: each row of YtjpcgofidijigaaGreatDoorRows.lean that lists a variable, with what it lists TIED to the program's text (the seventh form; the later family's looks); each row that meets fmt, with fmt's text TOLD by the authors' own Lean function (tested against real Go, not proved from fmt's source: count such statements apart). THE CARD IS WHAT COUNTS. Prove the row's statement (the work); the ties are given (YtjpcgofidijigaaGreatDoorTie.lean); close each card by the builder's one call (the guide's Derived/Test/ToyasCard.lean, 'card_holds'). Laid BY PROGRAM, IN A SANDBOX (cutbox-door.mjs). By AI agents, Wed Nov 11 2026. No macro, syntax, notation, axiom, sorry.
-/
import Derived.Test.YtjpcgofidijigaaGreatDoorRows
import GoSem.ClaimSeven
namespace Go.Proofs.YtjpcgofidijigaaGreatDoor
namespace Rows

/-- THE TIED CARD OF 'laws.FnUndone'. -/
def fnUndoneCard : Claim7 := { stood := { row := fnUndoneRow, standIns := [], harness := (true, "8555e321f588bf2401063a8d1d2ea1d540fa5d6d9dd568f1fcb4d65c5357caf3"), looks := true }, kinds := [], alts := [], laidByText := true, laidKinds := [.data, .data, .data, .data, .sentinel, .sentinel, .pinned], laidTests := true, laidLooks := .later }
def FnUndoneCardSaid : Prop := Claim7.holds Tryz.pinned (.plain (OpenSpec.ofChange fnUndoneSpec)) fnUndoneCard

/-- THE SECOND FORM's CARD OF 'laws.FnUndone'. -/
def fnUndoneUptoCard : Claim7 := { stood := { row := fnUndoneUptoRow, standIns := [], harness := (true, "8555e321f588bf2401063a8d1d2ea1d540fa5d6d9dd568f1fcb4d65c5357caf3"), looks := true }, kinds := [], alts := [], laidByText := true, laidKinds := [.data, .data, .data, .data, .sentinel, .sentinel, .pinned], laidTests := true, laidLooks := .later }
def FnUndoneUptoCardSaid : Prop := Claim7.holds Tryz.pinned (.plain (OpenSpec.upto fnUndoneSpec)) fnUndoneUptoCard
end Rows
end Go.Proofs.YtjpcgofidijigaaGreatDoor
