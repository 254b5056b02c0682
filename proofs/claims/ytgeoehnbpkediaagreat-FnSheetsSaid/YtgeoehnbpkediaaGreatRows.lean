/-
  No cell of these rows narrows 'for every input' (looked for: loops, veiled, ifaces, maps, wideKeys, modest, calm, conditions, laid).
  DERIVED. THE GIVEN ROWS OF THIS SEAT. 3 by the template 'for every input the law returns true; each argument reads behind the call as it read before'; 0 by the template 'total and deterministic' (their statements: YtgeoehnbpkediaaGreatTotals.lean).
  GIVEN WITH THE SEED: the statements are not yours to turn. If you find one false, say at which input.
  Laid BY PROGRAM, IN A SANDBOX (cutbox-rows.mjs): the forced cells as the released guide's own fill.sh prints them over the translation 9ba21ff4234fefe6… (all of the seat's roots in one cut). By AI agents, Wed Nov 11 2026. No macro, syntax, notation, axiom, sorry.
-/
import Derived.Test.YtgeoehnbpkediaaGreatChecked
import GoSem.Claim
import GoSem.ClaimJoined
import GoSem.ClaimMapViews
import Derived.JoinedTies
import Derived.KernelRfl
namespace Go.Proofs.YtgeoehnbpkediaaGreat
/- THE CELL 'sum', in the pinned program and in every row, IS THE sha256 OF THE DUMP (.gsa) THAT YtgeoehnbpkediaaGreatProg.lean LOADS. Nothing in Lean hashes anything: it is a label: what it is worth is what the hold of that sum in a sandbox is worth. -/
noncomputable def Tryz.pinned : Pinned := { name := "ytgeoehnbpkediaagreat", sum := "9ba21ff4234fefe6f55169906e79934dbba2f284b3e116bbbb43f81e7e83dbbc", checked := Tryz.checked }
namespace Rows
def none {H : Type} : Left H := { results := [], args := [] }

/-- 'laws.FnSheets': WHATEVER THE INPUT: true; the input reads as it did. -/
def fnSheetsSpec : ChangeSpec := { name := "fnSheets", fn := fun _ => fun
  | [d] => { results := [.lit (.bool true)], args := [d] }
  | _ => none }
def fnSheetsRow : OpenClaim := { program := "ytgeoehnbpkediaagreat", sum := "9ba21ff4234fefe6f55169906e79934dbba2f284b3e116bbbb43f81e7e83dbbc", func := "loop.example/g03411/laws.FnSheets", spec := "fnSheets", unfollowed := true, recurses := true, apart := false }
def FnSheetsSaid : Prop := fnSheetsRow.holds Tryz.pinned (OpenSpec.ofChange fnSheetsSpec)

/-- ITS FALSE NEIGHBOUR: 'it returns false'. Refute it at one input. -/
def fnSheetsWrong : ChangeSpec := { name := "fnSheets", fn := fun _ => fun
  | [d] => { results := [.lit (.bool false)], args := [d] }
  | _ => none }
def FnSheetsWrongFalsely : Prop := fnSheetsRow.holds Tryz.pinned (OpenSpec.ofChange fnSheetsWrong)

/-- 'laws.FnExactEvaluateSheet': WHATEVER THE INPUT: true; the input reads as it did. -/
def fnExactEvaluateSheetSpec : ChangeSpec := { name := "fnExactEvaluateSheet", fn := fun _ => fun
  | [d] => { results := [.lit (.bool true)], args := [d] }
  | _ => none }
def fnExactEvaluateSheetRow : OpenClaim := { program := "ytgeoehnbpkediaagreat", sum := "9ba21ff4234fefe6f55169906e79934dbba2f284b3e116bbbb43f81e7e83dbbc", func := "loop.example/g03411/laws.FnExactEvaluateSheet", spec := "fnExactEvaluateSheet", unfollowed := true, recurses := true, apart := false }
def FnExactEvaluateSheetSaid : Prop := fnExactEvaluateSheetRow.holds Tryz.pinned (OpenSpec.ofChange fnExactEvaluateSheetSpec)

/-- ITS FALSE NEIGHBOUR: 'it returns false'. Refute it at one input. -/
def fnExactEvaluateSheetWrong : ChangeSpec := { name := "fnExactEvaluateSheet", fn := fun _ => fun
  | [d] => { results := [.lit (.bool false)], args := [d] }
  | _ => none }
def FnExactEvaluateSheetWrongFalsely : Prop := fnExactEvaluateSheetRow.holds Tryz.pinned (OpenSpec.ofChange fnExactEvaluateSheetWrong)

/-- 'laws.FnExactUpdateSheet': WHATEVER THE INPUT: true; the input reads as it did. -/
def fnExactUpdateSheetSpec : ChangeSpec := { name := "fnExactUpdateSheet", fn := fun _ => fun
  | [d1, d2, d3] => { results := [.lit (.bool true)], args := [d1, d2, d3] }
  | _ => none }
def fnExactUpdateSheetRow : OpenClaim := { program := "ytgeoehnbpkediaagreat", sum := "9ba21ff4234fefe6f55169906e79934dbba2f284b3e116bbbb43f81e7e83dbbc", func := "loop.example/g03411/laws.FnExactUpdateSheet", spec := "fnExactUpdateSheet", unfollowed := true, recurses := true, apart := false }
def FnExactUpdateSheetSaid : Prop := fnExactUpdateSheetRow.holds Tryz.pinned (OpenSpec.ofChange fnExactUpdateSheetSpec)

/-- ITS FALSE NEIGHBOUR: 'it returns false'. Refute it at one input. -/
def fnExactUpdateSheetWrong : ChangeSpec := { name := "fnExactUpdateSheet", fn := fun _ => fun
  | [d1, d2, d3] => { results := [.lit (.bool false)], args := [d1, d2, d3] }
  | _ => none }
def FnExactUpdateSheetWrongFalsely : Prop := fnExactUpdateSheetRow.holds Tryz.pinned (OpenSpec.ofChange fnExactUpdateSheetWrong)

/- THE SECOND FORM. 'bulk': how many values and letters a reading holds, each counted each time it is reached (what is shared counts as often as it is met; a slice's spare places count too). A statement '..UptoSaid' is the law's where the arguments, and the package variables that the reading takes, are together of bulk at most 1048576: NARROWER than '..Said'. Prove '..Said' where nothing that the law and all that it calls make is longer than what came in: it says more and counts as full. Else prove '..UptoSaid'. A law counts once. -/
mutual
def uptoBulk {H : Type} : DataW H → Nat
  | .lit (.string bytes) => bytes.length + 1
  | .lit _ => 1
  | .nil => 1
  | .ptr d => uptoBulk d + 1
  | .slice elems spare => uptoBulkAll elems + uptoBulkAll spare + 1
  | .agg parts => uptoBulkAll parts + 1
  | .iface _ d => uptoBulk d + 1
  | .map entries => uptoBulkEntries entries + 1
  | .held _ => 1
def uptoBulkAll {H : Type} : List (DataW H) → Nat
  | [] => 0
  | d :: r => uptoBulk d + uptoBulkAll r
def uptoBulkEntries {H : Type} : List (Lit × DataW H) → Nat
  | [] => 0
  | x :: r => uptoBulkEntry x + uptoBulkEntries r
def uptoBulkEntry {H : Type} : Lit × DataW H → Nat
  | (.string bytes, d) => bytes.length + uptoBulk d + 1
  | (_, d) => uptoBulk d + 1
 end
def uptoSmall : (H : Type) → List (DataW H) → Bool := fun _ ds => decide (uptoBulkAll ds ≤ 1048576)
def OpenSpec.upto (s : _root_.Go.ChangeSpec) : _root_.Go.OpenSpec := { _root_.Go.OpenSpec.ofChange s with cond := some uptoSmall }

/-- 'laws.FnSheets', WHERE WHAT IT READS IS OF BULK AT MOST 1048576: true; the input reads as it did. -/
def fnSheetsUptoRow : OpenClaim := { program := "ytgeoehnbpkediaagreat", sum := "9ba21ff4234fefe6f55169906e79934dbba2f284b3e116bbbb43f81e7e83dbbc", func := "loop.example/g03411/laws.FnSheets", spec := "fnSheets", unfollowed := true, recurses := true, apart := false, narrowed := true }
def FnSheetsUptoSaid : Prop := fnSheetsUptoRow.holds Tryz.pinned (OpenSpec.upto fnSheetsSpec)

/-- 'laws.FnExactEvaluateSheet', WHERE WHAT IT READS IS OF BULK AT MOST 1048576: true; the input reads as it did. -/
def fnExactEvaluateSheetUptoRow : OpenClaim := { program := "ytgeoehnbpkediaagreat", sum := "9ba21ff4234fefe6f55169906e79934dbba2f284b3e116bbbb43f81e7e83dbbc", func := "loop.example/g03411/laws.FnExactEvaluateSheet", spec := "fnExactEvaluateSheet", unfollowed := true, recurses := true, apart := false, narrowed := true }
def FnExactEvaluateSheetUptoSaid : Prop := fnExactEvaluateSheetUptoRow.holds Tryz.pinned (OpenSpec.upto fnExactEvaluateSheetSpec)

/-- 'laws.FnExactUpdateSheet', WHERE WHAT IT READS IS OF BULK AT MOST 1048576: true; the input reads as it did. -/
def fnExactUpdateSheetUptoRow : OpenClaim := { program := "ytgeoehnbpkediaagreat", sum := "9ba21ff4234fefe6f55169906e79934dbba2f284b3e116bbbb43f81e7e83dbbc", func := "loop.example/g03411/laws.FnExactUpdateSheet", spec := "fnExactUpdateSheet", unfollowed := true, recurses := true, apart := false, narrowed := true }
def FnExactUpdateSheetUptoSaid : Prop := fnExactUpdateSheetUptoRow.holds Tryz.pinned (OpenSpec.upto fnExactUpdateSheetSpec)

end Rows
end Go.Proofs.YtgeoehnbpkediaaGreat
