/-
  DERIVED. GIVEN WITH THE SEED: THE CARDS: each row of YtdnpdfokdibmdaaDoorRows.lean that lists a variable, with what it lists TIED to the program's text (the seventh form; the later family's looks); each row that meets fmt, with fmt's text TOLD by the authors' own Lean function (tested against real Go, not proved from fmt's source: count such statements apart). THE CARD IS WHAT COUNTS. Prove the row's statement (the work); the ties are given (YtdnpdfokdibmdaaDoorTie.lean); close each card by the builder's one call (the guide's Derived/Test/ToyasCard.lean, 'card_holds'). Laid BY PROGRAM, IN A SANDBOX (cutbox-door.mjs). By AI agents, Wed Nov 11 2026. No macro, syntax, notation, axiom, sorry.
-/
import Derived.Test.YtdnpdfokdibmdaaDoorRows
import GoSem.ClaimSeven
namespace Go.Proofs.YtdnpdfokdibmdaaDoor
namespace Rows

/-- THE TIED CARD OF 'laws.FnExactFormatDef'. -/
def fnExactFormatDefCard : Claim7 := { stood := { row := fnExactFormatDefRow, standIns := [], harness := (true, "97b16c1349d033da095b80efa5817f64a78b6b8e36fc27a68a76f0528b05ca72"), looks := true }, kinds := [], alts := [], laidByText := true, laidKinds := [.data, .data, .data], laidTests := true, laidLooks := .later }
def FnExactFormatDefCardSaid : Prop := Claim7.holds Tryd.pinned (.plain (OpenSpec.ofChange fnExactFormatDefSpec)) fnExactFormatDefCard

/-- THE TIED CARD OF 'laws.FnExactParseDef'. -/
def fnExactParseDefCard : Claim7 := { stood := { row := fnExactParseDefRow, standIns := [], harness := (true, "97b16c1349d033da095b80efa5817f64a78b6b8e36fc27a68a76f0528b05ca72"), looks := true }, kinds := [], alts := [], laidByText := true, laidKinds := [.data, .data, .data, .data, .sentinel, .sentinel, .pinned], laidTests := true, laidLooks := .later }
def FnExactParseDefCardSaid : Prop := Claim7.holds Tryd.pinned (.plain (OpenSpec.ofChange fnExactParseDefSpec)) fnExactParseDefCard

/-- THE SECOND FORM's CARD OF 'laws.FnExactFormatDef'. -/
def fnExactFormatDefUptoCard : Claim7 := { stood := { row := fnExactFormatDefUptoRow, standIns := [], harness := (true, "97b16c1349d033da095b80efa5817f64a78b6b8e36fc27a68a76f0528b05ca72"), looks := true }, kinds := [], alts := [], laidByText := true, laidKinds := [.data, .data, .data], laidTests := true, laidLooks := .later }
def FnExactFormatDefUptoCardSaid : Prop := Claim7.holds Tryd.pinned (.plain (OpenSpec.upto fnExactFormatDefSpec)) fnExactFormatDefUptoCard

/-- THE SECOND FORM's CARD OF 'laws.FnExactParseDef'. -/
def fnExactParseDefUptoCard : Claim7 := { stood := { row := fnExactParseDefUptoRow, standIns := [], harness := (true, "97b16c1349d033da095b80efa5817f64a78b6b8e36fc27a68a76f0528b05ca72"), looks := true }, kinds := [], alts := [], laidByText := true, laidKinds := [.data, .data, .data, .data, .sentinel, .sentinel, .pinned], laidTests := true, laidLooks := .later }
def FnExactParseDefUptoCardSaid : Prop := Claim7.holds Tryd.pinned (.plain (OpenSpec.upto fnExactParseDefSpec)) fnExactParseDefUptoCard
end Rows
end Go.Proofs.YtdnpdfokdibmdaaDoor
