/-
  No cell of these rows narrows 'for every input' (looked for: loops, veiled, ifaces, maps, wideKeys, modest, calm, conditions, laid).
  DERIVED. THE GIVEN ROWS OF THIS SEAT. 12 by the template 'for every input the law returns true; each argument reads behind the call as it read before'; 0 by the template 'total and deterministic' (their statements: YtkafhbedipfgpaaTotals.lean).
  GIVEN WITH THE SEED: the statements are not yours to turn. If you find one false, say at which input.
  Laid BY PROGRAM, IN A SANDBOX (cutbox-rows.mjs): the forced cells as the released guide's own fill.sh prints them over the translation 77ff37ddba8c962a… (all of the seat's roots in one cut). By AI agents, Wed Nov 11 2026. No macro, syntax, notation, axiom, sorry.
-/
import Derived.Test.YtkafhbedipfgpaaChecked
import GoSem.Claim
import GoSem.ClaimJoined
import GoSem.ClaimMapViews
import Derived.JoinedTies
import Derived.KernelRfl
namespace Go.Proofs.Ytkafhbedipfgpaa
/- THE CELL 'sum', in the pinned program and in every row, IS THE sha256 OF THE DUMP (.gsa) THAT YtkafhbedipfgpaaProg.lean LOADS. Nothing in Lean hashes anything: it is a label: what it is worth is what the hold of that sum in a sandbox is worth. -/
noncomputable def Try.pinned : Pinned := { name := "ytkafhbedipfgpaa", sum := "77ff37ddba8c962a8f4c9c60c535793d8eeaed58d79b71c2a8c3bd4afe923217", checked := Try.checked }
namespace Rows
def none {H : Type} : Left H := { results := [], args := [] }

/-- 'laws.FnExactIsComplex': WHATEVER THE INPUT: true; the input reads as it did. -/
def fnExactIsComplexSpec : ChangeSpec := { name := "fnExactIsComplex", fn := fun _ => fun
  | [d] => { results := [.lit (.bool true)], args := [d] }
  | _ => none }
def fnExactIsComplexRow : OpenClaim := { program := "ytkafhbedipfgpaa", sum := "77ff37ddba8c962a8f4c9c60c535793d8eeaed58d79b71c2a8c3bd4afe923217", func := "loop.example/g03411/laws.FnExactIsComplex", spec := "fnExactIsComplex", unfollowed := true, recurses := true, apart := false }
def FnExactIsComplexSaid : Prop := fnExactIsComplexRow.holds Try.pinned (OpenSpec.ofChange fnExactIsComplexSpec)

/-- ITS FALSE NEIGHBOUR: 'it returns false'. Refute it at one input. -/
def fnExactIsComplexWrong : ChangeSpec := { name := "fnExactIsComplex", fn := fun _ => fun
  | [d] => { results := [.lit (.bool false)], args := [d] }
  | _ => none }
def FnExactIsComplexWrongFalsely : Prop := fnExactIsComplexRow.holds Try.pinned (OpenSpec.ofChange fnExactIsComplexWrong)

/-- 'laws.FnExactEulerOf': WHATEVER THE INPUT: true; the input reads as it did. -/
def fnExactEulerOfSpec : ChangeSpec := { name := "fnExactEulerOf", fn := fun _ => fun
  | [d] => { results := [.lit (.bool true)], args := [d] }
  | _ => none }
def fnExactEulerOfRow : OpenClaim := { program := "ytkafhbedipfgpaa", sum := "77ff37ddba8c962a8f4c9c60c535793d8eeaed58d79b71c2a8c3bd4afe923217", func := "loop.example/g03411/laws.FnExactEulerOf", spec := "fnExactEulerOf", unfollowed := true, recurses := true, apart := false }
def FnExactEulerOfSaid : Prop := fnExactEulerOfRow.holds Try.pinned (OpenSpec.ofChange fnExactEulerOfSpec)

/-- ITS FALSE NEIGHBOUR: 'it returns false'. Refute it at one input. -/
def fnExactEulerOfWrong : ChangeSpec := { name := "fnExactEulerOf", fn := fun _ => fun
  | [d] => { results := [.lit (.bool false)], args := [d] }
  | _ => none }
def FnExactEulerOfWrongFalsely : Prop := fnExactEulerOfRow.holds Try.pinned (OpenSpec.ofChange fnExactEulerOfWrong)

/-- 'laws.FnExactBoundaryOf': WHATEVER THE INPUT: true; the input reads as it did. -/
def fnExactBoundaryOfSpec : ChangeSpec := { name := "fnExactBoundaryOf", fn := fun _ => fun
  | [d1, d2] => { results := [.lit (.bool true)], args := [d1, d2] }
  | _ => none }
def fnExactBoundaryOfRow : OpenClaim := { program := "ytkafhbedipfgpaa", sum := "77ff37ddba8c962a8f4c9c60c535793d8eeaed58d79b71c2a8c3bd4afe923217", func := "loop.example/g03411/laws.FnExactBoundaryOf", spec := "fnExactBoundaryOf", unfollowed := true, recurses := true, apart := false }
def FnExactBoundaryOfSaid : Prop := fnExactBoundaryOfRow.holds Try.pinned (OpenSpec.ofChange fnExactBoundaryOfSpec)

/-- ITS FALSE NEIGHBOUR: 'it returns false'. Refute it at one input. -/
def fnExactBoundaryOfWrong : ChangeSpec := { name := "fnExactBoundaryOf", fn := fun _ => fun
  | [d1, d2] => { results := [.lit (.bool false)], args := [d1, d2] }
  | _ => none }
def FnExactBoundaryOfWrongFalsely : Prop := fnExactBoundaryOfRow.holds Try.pinned (OpenSpec.ofChange fnExactBoundaryOfWrong)

/-- 'laws.FnExactCollapseOf': WHATEVER THE INPUT: true; the input reads as it did. -/
def fnExactCollapseOfSpec : ChangeSpec := { name := "fnExactCollapseOf", fn := fun _ => fun
  | [d] => { results := [.lit (.bool true)], args := [d] }
  | _ => none }
def fnExactCollapseOfRow : OpenClaim := { program := "ytkafhbedipfgpaa", sum := "77ff37ddba8c962a8f4c9c60c535793d8eeaed58d79b71c2a8c3bd4afe923217", func := "loop.example/g03411/laws.FnExactCollapseOf", spec := "fnExactCollapseOf", unfollowed := true, recurses := true, apart := false }
def FnExactCollapseOfSaid : Prop := fnExactCollapseOfRow.holds Try.pinned (OpenSpec.ofChange fnExactCollapseOfSpec)

/-- ITS FALSE NEIGHBOUR: 'it returns false'. Refute it at one input. -/
def fnExactCollapseOfWrong : ChangeSpec := { name := "fnExactCollapseOf", fn := fun _ => fun
  | [d] => { results := [.lit (.bool false)], args := [d] }
  | _ => none }
def FnExactCollapseOfWrongFalsely : Prop := fnExactCollapseOfRow.holds Try.pinned (OpenSpec.ofChange fnExactCollapseOfWrong)

/-- 'laws.FnBoundary': WHATEVER THE INPUT: true; the input reads as it did. -/
def fnBoundarySpec : ChangeSpec := { name := "fnBoundary", fn := fun _ => fun
  | [d] => { results := [.lit (.bool true)], args := [d] }
  | _ => none }
def fnBoundaryRow : OpenClaim := { program := "ytkafhbedipfgpaa", sum := "77ff37ddba8c962a8f4c9c60c535793d8eeaed58d79b71c2a8c3bd4afe923217", func := "loop.example/g03411/laws.FnBoundary", spec := "fnBoundary", unfollowed := true, recurses := true, apart := false }
def FnBoundarySaid : Prop := fnBoundaryRow.holds Try.pinned (OpenSpec.ofChange fnBoundarySpec)

/-- ITS FALSE NEIGHBOUR: 'it returns false'. Refute it at one input. -/
def fnBoundaryWrong : ChangeSpec := { name := "fnBoundary", fn := fun _ => fun
  | [d] => { results := [.lit (.bool false)], args := [d] }
  | _ => none }
def FnBoundaryWrongFalsely : Prop := fnBoundaryRow.holds Try.pinned (OpenSpec.ofChange fnBoundaryWrong)

/-- 'laws.FnExactIsGradient': WHATEVER THE INPUT: true; the input reads as it did. -/
def fnExactIsGradientSpec : ChangeSpec := { name := "fnExactIsGradient", fn := fun _ => fun
  | [d1, d2] => { results := [.lit (.bool true)], args := [d1, d2] }
  | _ => none }
def fnExactIsGradientRow : OpenClaim := { program := "ytkafhbedipfgpaa", sum := "77ff37ddba8c962a8f4c9c60c535793d8eeaed58d79b71c2a8c3bd4afe923217", func := "loop.example/g03411/laws.FnExactIsGradient", spec := "fnExactIsGradient", unfollowed := true, recurses := true, apart := false }
def FnExactIsGradientSaid : Prop := fnExactIsGradientRow.holds Try.pinned (OpenSpec.ofChange fnExactIsGradientSpec)

/-- ITS FALSE NEIGHBOUR: 'it returns false'. Refute it at one input. -/
def fnExactIsGradientWrong : ChangeSpec := { name := "fnExactIsGradient", fn := fun _ => fun
  | [d1, d2] => { results := [.lit (.bool false)], args := [d1, d2] }
  | _ => none }
def FnExactIsGradientWrongFalsely : Prop := fnExactIsGradientRow.holds Try.pinned (OpenSpec.ofChange fnExactIsGradientWrong)

/-- 'laws.FnExactIsCycle': WHATEVER THE INPUT: true; the input reads as it did. -/
def fnExactIsCycleSpec : ChangeSpec := { name := "fnExactIsCycle", fn := fun _ => fun
  | [d1, d2, d3] => { results := [.lit (.bool true)], args := [d1, d2, d3] }
  | _ => none }
def fnExactIsCycleRow : OpenClaim := { program := "ytkafhbedipfgpaa", sum := "77ff37ddba8c962a8f4c9c60c535793d8eeaed58d79b71c2a8c3bd4afe923217", func := "loop.example/g03411/laws.FnExactIsCycle", spec := "fnExactIsCycle", unfollowed := true, recurses := true, apart := false }
def FnExactIsCycleSaid : Prop := fnExactIsCycleRow.holds Try.pinned (OpenSpec.ofChange fnExactIsCycleSpec)

/-- ITS FALSE NEIGHBOUR: 'it returns false'. Refute it at one input. -/
def fnExactIsCycleWrong : ChangeSpec := { name := "fnExactIsCycle", fn := fun _ => fun
  | [d1, d2, d3] => { results := [.lit (.bool false)], args := [d1, d2, d3] }
  | _ => none }
def FnExactIsCycleWrongFalsely : Prop := fnExactIsCycleRow.holds Try.pinned (OpenSpec.ofChange fnExactIsCycleWrong)

/-- 'laws.FnExactGradientOf': WHATEVER THE INPUT: true; the input reads as it did. -/
def fnExactGradientOfSpec : ChangeSpec := { name := "fnExactGradientOf", fn := fun _ => fun
  | [d] => { results := [.lit (.bool true)], args := [d] }
  | _ => none }
def fnExactGradientOfRow : OpenClaim := { program := "ytkafhbedipfgpaa", sum := "77ff37ddba8c962a8f4c9c60c535793d8eeaed58d79b71c2a8c3bd4afe923217", func := "loop.example/g03411/laws.FnExactGradientOf", spec := "fnExactGradientOf", unfollowed := true, recurses := true, apart := false }
def FnExactGradientOfSaid : Prop := fnExactGradientOfRow.holds Try.pinned (OpenSpec.ofChange fnExactGradientOfSpec)

/-- ITS FALSE NEIGHBOUR: 'it returns false'. Refute it at one input. -/
def fnExactGradientOfWrong : ChangeSpec := { name := "fnExactGradientOf", fn := fun _ => fun
  | [d] => { results := [.lit (.bool false)], args := [d] }
  | _ => none }
def FnExactGradientOfWrongFalsely : Prop := fnExactGradientOfRow.holds Try.pinned (OpenSpec.ofChange fnExactGradientOfWrong)

/-- 'laws.FnExactCriticalOf': WHATEVER THE INPUT: true; the input reads as it did. -/
def fnExactCriticalOfSpec : ChangeSpec := { name := "fnExactCriticalOf", fn := fun _ => fun
  | [d1, d2] => { results := [.lit (.bool true)], args := [d1, d2] }
  | _ => none }
def fnExactCriticalOfRow : OpenClaim := { program := "ytkafhbedipfgpaa", sum := "77ff37ddba8c962a8f4c9c60c535793d8eeaed58d79b71c2a8c3bd4afe923217", func := "loop.example/g03411/laws.FnExactCriticalOf", spec := "fnExactCriticalOf", unfollowed := true, recurses := true, apart := false }
def FnExactCriticalOfSaid : Prop := fnExactCriticalOfRow.holds Try.pinned (OpenSpec.ofChange fnExactCriticalOfSpec)

/-- ITS FALSE NEIGHBOUR: 'it returns false'. Refute it at one input. -/
def fnExactCriticalOfWrong : ChangeSpec := { name := "fnExactCriticalOf", fn := fun _ => fun
  | [d1, d2] => { results := [.lit (.bool false)], args := [d1, d2] }
  | _ => none }
def FnExactCriticalOfWrongFalsely : Prop := fnExactCriticalOfRow.holds Try.pinned (OpenSpec.ofChange fnExactCriticalOfWrong)

/-- 'laws.FnGradients': WHATEVER THE INPUT: true; the input reads as it did. -/
def fnGradientsSpec : ChangeSpec := { name := "fnGradients", fn := fun _ => fun
  | [d] => { results := [.lit (.bool true)], args := [d] }
  | _ => none }
def fnGradientsRow : OpenClaim := { program := "ytkafhbedipfgpaa", sum := "77ff37ddba8c962a8f4c9c60c535793d8eeaed58d79b71c2a8c3bd4afe923217", func := "loop.example/g03411/laws.FnGradients", spec := "fnGradients", unfollowed := true, recurses := true, apart := false }
def FnGradientsSaid : Prop := fnGradientsRow.holds Try.pinned (OpenSpec.ofChange fnGradientsSpec)

/-- ITS FALSE NEIGHBOUR: 'it returns false'. Refute it at one input. -/
def fnGradientsWrong : ChangeSpec := { name := "fnGradients", fn := fun _ => fun
  | [d] => { results := [.lit (.bool false)], args := [d] }
  | _ => none }
def FnGradientsWrongFalsely : Prop := fnGradientsRow.holds Try.pinned (OpenSpec.ofChange fnGradientsWrong)

/-- 'laws.FnExactLinkOf': WHATEVER THE INPUT: true; the input reads as it did. -/
def fnExactLinkOfSpec : ChangeSpec := { name := "fnExactLinkOf", fn := fun _ => fun
  | [d1, d2] => { results := [.lit (.bool true)], args := [d1, d2] }
  | _ => none }
def fnExactLinkOfRow : OpenClaim := { program := "ytkafhbedipfgpaa", sum := "77ff37ddba8c962a8f4c9c60c535793d8eeaed58d79b71c2a8c3bd4afe923217", func := "loop.example/g03411/laws.FnExactLinkOf", spec := "fnExactLinkOf", unfollowed := true, recurses := true, apart := false }
def FnExactLinkOfSaid : Prop := fnExactLinkOfRow.holds Try.pinned (OpenSpec.ofChange fnExactLinkOfSpec)

/-- ITS FALSE NEIGHBOUR: 'it returns false'. Refute it at one input. -/
def fnExactLinkOfWrong : ChangeSpec := { name := "fnExactLinkOf", fn := fun _ => fun
  | [d1, d2] => { results := [.lit (.bool false)], args := [d1, d2] }
  | _ => none }
def FnExactLinkOfWrongFalsely : Prop := fnExactLinkOfRow.holds Try.pinned (OpenSpec.ofChange fnExactLinkOfWrong)

/-- 'laws.FnExactComplexOf': WHATEVER THE INPUT: true; the input reads as it did. -/
def fnExactComplexOfSpec : ChangeSpec := { name := "fnExactComplexOf", fn := fun _ => fun
  | [d] => { results := [.lit (.bool true)], args := [d] }
  | _ => none }
def fnExactComplexOfRow : OpenClaim := { program := "ytkafhbedipfgpaa", sum := "77ff37ddba8c962a8f4c9c60c535793d8eeaed58d79b71c2a8c3bd4afe923217", func := "loop.example/g03411/laws.FnExactComplexOf", spec := "fnExactComplexOf", unfollowed := true, recurses := true, apart := false }
def FnExactComplexOfSaid : Prop := fnExactComplexOfRow.holds Try.pinned (OpenSpec.ofChange fnExactComplexOfSpec)

/-- ITS FALSE NEIGHBOUR: 'it returns false'. Refute it at one input. -/
def fnExactComplexOfWrong : ChangeSpec := { name := "fnExactComplexOf", fn := fun _ => fun
  | [d] => { results := [.lit (.bool false)], args := [d] }
  | _ => none }
def FnExactComplexOfWrongFalsely : Prop := fnExactComplexOfRow.holds Try.pinned (OpenSpec.ofChange fnExactComplexOfWrong)

/- THE SECOND FORM. 'bulk': how many values and letters a reading holds, each counted each time it is reached (what is shared counts as often as it is met; a slice's spare places count too). A statement '..UptoSaid' is the law's where the arguments, and the package variables that the reading takes, are together of bulk at most 1048576: NARROWER than '..Said'. Prove '..Said' where nothing that the law and all that it calls make is longer than what came in: it says more and counts as full. Else prove '..UptoSaid'. A law counts once. -/
mutual
def uptoBulk {H : Type} : DataW H → Nat
  | .lit (.string bytes) => bytes.length + 1
  | .lit _ => 1
  | .nil => 1
  | .ptr d => uptoBulk d + 1
  | .slice elems spare => uptoBulkAll elems + uptoBulkAll spare + 1
  | .agg parts => uptoBulkAll parts + 1
  | .iface _ d => uptoBulk d + 1
  | .map entries => uptoBulkEntries entries + 1
  | .held _ => 1
def uptoBulkAll {H : Type} : List (DataW H) → Nat
  | [] => 0
  | d :: r => uptoBulk d + uptoBulkAll r
def uptoBulkEntries {H : Type} : List (Lit × DataW H) → Nat
  | [] => 0
  | x :: r => uptoBulkEntry x + uptoBulkEntries r
def uptoBulkEntry {H : Type} : Lit × DataW H → Nat
  | (.string bytes, d) => bytes.length + uptoBulk d + 1
  | (_, d) => uptoBulk d + 1
 end
def uptoSmall : (H : Type) → List (DataW H) → Bool := fun _ ds => decide (uptoBulkAll ds ≤ 1048576)
def OpenSpec.upto (s : _root_.Go.ChangeSpec) : _root_.Go.OpenSpec := { _root_.Go.OpenSpec.ofChange s with cond := some uptoSmall }

/-- 'laws.FnExactIsComplex', WHERE WHAT IT READS IS OF BULK AT MOST 1048576: true; the input reads as it did. -/
def fnExactIsComplexUptoRow : OpenClaim := { program := "ytkafhbedipfgpaa", sum := "77ff37ddba8c962a8f4c9c60c535793d8eeaed58d79b71c2a8c3bd4afe923217", func := "loop.example/g03411/laws.FnExactIsComplex", spec := "fnExactIsComplex", unfollowed := true, recurses := true, apart := false, narrowed := true }
def FnExactIsComplexUptoSaid : Prop := fnExactIsComplexUptoRow.holds Try.pinned (OpenSpec.upto fnExactIsComplexSpec)

/-- 'laws.FnExactEulerOf', WHERE WHAT IT READS IS OF BULK AT MOST 1048576: true; the input reads as it did. -/
def fnExactEulerOfUptoRow : OpenClaim := { program := "ytkafhbedipfgpaa", sum := "77ff37ddba8c962a8f4c9c60c535793d8eeaed58d79b71c2a8c3bd4afe923217", func := "loop.example/g03411/laws.FnExactEulerOf", spec := "fnExactEulerOf", unfollowed := true, recurses := true, apart := false, narrowed := true }
def FnExactEulerOfUptoSaid : Prop := fnExactEulerOfUptoRow.holds Try.pinned (OpenSpec.upto fnExactEulerOfSpec)

/-- 'laws.FnExactBoundaryOf', WHERE WHAT IT READS IS OF BULK AT MOST 1048576: true; the input reads as it did. -/
def fnExactBoundaryOfUptoRow : OpenClaim := { program := "ytkafhbedipfgpaa", sum := "77ff37ddba8c962a8f4c9c60c535793d8eeaed58d79b71c2a8c3bd4afe923217", func := "loop.example/g03411/laws.FnExactBoundaryOf", spec := "fnExactBoundaryOf", unfollowed := true, recurses := true, apart := false, narrowed := true }
def FnExactBoundaryOfUptoSaid : Prop := fnExactBoundaryOfUptoRow.holds Try.pinned (OpenSpec.upto fnExactBoundaryOfSpec)

/-- 'laws.FnExactCollapseOf', WHERE WHAT IT READS IS OF BULK AT MOST 1048576: true; the input reads as it did. -/
def fnExactCollapseOfUptoRow : OpenClaim := { program := "ytkafhbedipfgpaa", sum := "77ff37ddba8c962a8f4c9c60c535793d8eeaed58d79b71c2a8c3bd4afe923217", func := "loop.example/g03411/laws.FnExactCollapseOf", spec := "fnExactCollapseOf", unfollowed := true, recurses := true, apart := false, narrowed := true }
def FnExactCollapseOfUptoSaid : Prop := fnExactCollapseOfUptoRow.holds Try.pinned (OpenSpec.upto fnExactCollapseOfSpec)

/-- 'laws.FnBoundary', WHERE WHAT IT READS IS OF BULK AT MOST 1048576: true; the input reads as it did. -/
def fnBoundaryUptoRow : OpenClaim := { program := "ytkafhbedipfgpaa", sum := "77ff37ddba8c962a8f4c9c60c535793d8eeaed58d79b71c2a8c3bd4afe923217", func := "loop.example/g03411/laws.FnBoundary", spec := "fnBoundary", unfollowed := true, recurses := true, apart := false, narrowed := true }
def FnBoundaryUptoSaid : Prop := fnBoundaryUptoRow.holds Try.pinned (OpenSpec.upto fnBoundarySpec)

/-- 'laws.FnExactIsGradient', WHERE WHAT IT READS IS OF BULK AT MOST 1048576: true; the input reads as it did. -/
def fnExactIsGradientUptoRow : OpenClaim := { program := "ytkafhbedipfgpaa", sum := "77ff37ddba8c962a8f4c9c60c535793d8eeaed58d79b71c2a8c3bd4afe923217", func := "loop.example/g03411/laws.FnExactIsGradient", spec := "fnExactIsGradient", unfollowed := true, recurses := true, apart := false, narrowed := true }
def FnExactIsGradientUptoSaid : Prop := fnExactIsGradientUptoRow.holds Try.pinned (OpenSpec.upto fnExactIsGradientSpec)

/-- 'laws.FnExactIsCycle', WHERE WHAT IT READS IS OF BULK AT MOST 1048576: true; the input reads as it did. -/
def fnExactIsCycleUptoRow : OpenClaim := { program := "ytkafhbedipfgpaa", sum := "77ff37ddba8c962a8f4c9c60c535793d8eeaed58d79b71c2a8c3bd4afe923217", func := "loop.example/g03411/laws.FnExactIsCycle", spec := "fnExactIsCycle", unfollowed := true, recurses := true, apart := false, narrowed := true }
def FnExactIsCycleUptoSaid : Prop := fnExactIsCycleUptoRow.holds Try.pinned (OpenSpec.upto fnExactIsCycleSpec)

/-- 'laws.FnExactGradientOf', WHERE WHAT IT READS IS OF BULK AT MOST 1048576: true; the input reads as it did. -/
def fnExactGradientOfUptoRow : OpenClaim := { program := "ytkafhbedipfgpaa", sum := "77ff37ddba8c962a8f4c9c60c535793d8eeaed58d79b71c2a8c3bd4afe923217", func := "loop.example/g03411/laws.FnExactGradientOf", spec := "fnExactGradientOf", unfollowed := true, recurses := true, apart := false, narrowed := true }
def FnExactGradientOfUptoSaid : Prop := fnExactGradientOfUptoRow.holds Try.pinned (OpenSpec.upto fnExactGradientOfSpec)

/-- 'laws.FnExactCriticalOf', WHERE WHAT IT READS IS OF BULK AT MOST 1048576: true; the input reads as it did. -/
def fnExactCriticalOfUptoRow : OpenClaim := { program := "ytkafhbedipfgpaa", sum := "77ff37ddba8c962a8f4c9c60c535793d8eeaed58d79b71c2a8c3bd4afe923217", func := "loop.example/g03411/laws.FnExactCriticalOf", spec := "fnExactCriticalOf", unfollowed := true, recurses := true, apart := false, narrowed := true }
def FnExactCriticalOfUptoSaid : Prop := fnExactCriticalOfUptoRow.holds Try.pinned (OpenSpec.upto fnExactCriticalOfSpec)

/-- 'laws.FnGradients', WHERE WHAT IT READS IS OF BULK AT MOST 1048576: true; the input reads as it did. -/
def fnGradientsUptoRow : OpenClaim := { program := "ytkafhbedipfgpaa", sum := "77ff37ddba8c962a8f4c9c60c535793d8eeaed58d79b71c2a8c3bd4afe923217", func := "loop.example/g03411/laws.FnGradients", spec := "fnGradients", unfollowed := true, recurses := true, apart := false, narrowed := true }
def FnGradientsUptoSaid : Prop := fnGradientsUptoRow.holds Try.pinned (OpenSpec.upto fnGradientsSpec)

/-- 'laws.FnExactLinkOf', WHERE WHAT IT READS IS OF BULK AT MOST 1048576: true; the input reads as it did. -/
def fnExactLinkOfUptoRow : OpenClaim := { program := "ytkafhbedipfgpaa", sum := "77ff37ddba8c962a8f4c9c60c535793d8eeaed58d79b71c2a8c3bd4afe923217", func := "loop.example/g03411/laws.FnExactLinkOf", spec := "fnExactLinkOf", unfollowed := true, recurses := true, apart := false, narrowed := true }
def FnExactLinkOfUptoSaid : Prop := fnExactLinkOfUptoRow.holds Try.pinned (OpenSpec.upto fnExactLinkOfSpec)

/-- 'laws.FnExactComplexOf', WHERE WHAT IT READS IS OF BULK AT MOST 1048576: true; the input reads as it did. -/
def fnExactComplexOfUptoRow : OpenClaim := { program := "ytkafhbedipfgpaa", sum := "77ff37ddba8c962a8f4c9c60c535793d8eeaed58d79b71c2a8c3bd4afe923217", func := "loop.example/g03411/laws.FnExactComplexOf", spec := "fnExactComplexOf", unfollowed := true, recurses := true, apart := false, narrowed := true }
def FnExactComplexOfUptoSaid : Prop := fnExactComplexOfUptoRow.holds Try.pinned (OpenSpec.upto fnExactComplexOfSpec)

end Rows
end Go.Proofs.Ytkafhbedipfgpaa
