/-
  DERIVED. GIVEN WITH THE SEED: THE CARDS: each row of YtgjefeiddfjjnaaGreatDoorRows.lean that lists a variable, with what it lists TIED to the program's text (the seventh form; the later family's looks); each row that meets fmt, with fmt's text TOLD by the authors' own Lean function (tested against real Go, not proved from fmt's source: count such statements apart). THE CARD IS WHAT COUNTS. Prove the row's statement (the work); the ties are given (YtgjefeiddfjjnaaGreatDoorTie.lean); close each card by the builder's one call (the guide's Derived/Test/ToyasCard.lean, 'card_holds'). Laid BY PROGRAM, IN A SANDBOX (cutbox-door.mjs). By AI agents, Wed Nov 11 2026. No macro, syntax, notation, axiom, sorry.
-/
import Derived.Test.YtgjefeiddfjjnaaGreatDoorRows
import GoSem.ClaimSeven
namespace Go.Proofs.YtgjefeiddfjjnaaGreatDoor
namespace Rows

/-- THE TIED CARD OF 'laws.FnScripts'. -/
def fnScriptsCard : Claim7 := { stood := { row := fnScriptsRow, standIns := [], harness := (true, "b9ae75a1dc611d4b3e894b7267a2fafa6074317103cf1cb52fab5599956e3d08"), looks := true }, kinds := [], alts := [], laidByText := true, laidKinds := [.data, .data, .data, .data, .sentinel, .sentinel, .pinned], laidTests := true, laidLooks := .later }
def FnScriptsCardSaid : Prop := Claim7.holds Tryz.pinned (.plain (OpenSpec.ofChange fnScriptsSpec)) fnScriptsCard

/-- THE TIED CARD OF 'laws.FnExactScriptDefs'. -/
def fnExactScriptDefsCard : Claim7 := { stood := { row := fnExactScriptDefsRow, standIns := [], harness := (true, "b9ae75a1dc611d4b3e894b7267a2fafa6074317103cf1cb52fab5599956e3d08"), looks := true }, kinds := [], alts := [], laidByText := true, laidKinds := [.data, .data, .data, .data, .sentinel, .sentinel, .pinned], laidTests := true, laidLooks := .later }
def FnExactScriptDefsCardSaid : Prop := Claim7.holds Tryz.pinned (.plain (OpenSpec.ofChange fnExactScriptDefsSpec)) fnExactScriptDefsCard

/-- THE SECOND FORM's CARD OF 'laws.FnScripts'. -/
def fnScriptsUptoCard : Claim7 := { stood := { row := fnScriptsUptoRow, standIns := [], harness := (true, "b9ae75a1dc611d4b3e894b7267a2fafa6074317103cf1cb52fab5599956e3d08"), looks := true }, kinds := [], alts := [], laidByText := true, laidKinds := [.data, .data, .data, .data, .sentinel, .sentinel, .pinned], laidTests := true, laidLooks := .later }
def FnScriptsUptoCardSaid : Prop := Claim7.holds Tryz.pinned (.plain (OpenSpec.upto fnScriptsSpec)) fnScriptsUptoCard

/-- THE SECOND FORM's CARD OF 'laws.FnExactScriptDefs'. -/
def fnExactScriptDefsUptoCard : Claim7 := { stood := { row := fnExactScriptDefsUptoRow, standIns := [], harness := (true, "b9ae75a1dc611d4b3e894b7267a2fafa6074317103cf1cb52fab5599956e3d08"), looks := true }, kinds := [], alts := [], laidByText := true, laidKinds := [.data, .data, .data, .data, .sentinel, .sentinel, .pinned], laidTests := true, laidLooks := .later }
def FnExactScriptDefsUptoCardSaid : Prop := Claim7.holds Tryz.pinned (.plain (OpenSpec.upto fnExactScriptDefsSpec)) fnExactScriptDefsUptoCard
end Rows
end Go.Proofs.YtgjefeiddfjjnaaGreatDoor
