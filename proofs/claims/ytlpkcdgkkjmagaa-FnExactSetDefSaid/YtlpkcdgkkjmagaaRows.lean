/-
  No cell of these rows narrows 'for every input' (looked for: loops, veiled, ifaces, maps, wideKeys, modest, calm, conditions, laid).
  DERIVED. THE GIVEN ROWS OF THIS SEAT. 5 by the template 'for every input the law returns true; each argument reads behind the call as it read before'; 0 by the template 'total and deterministic' (their statements: YtlpkcdgkkjmagaaTotals.lean).
  GIVEN WITH THE SEED: the statements are not yours to turn. If you find one false, say at which input.
  Laid BY PROGRAM, IN A SANDBOX (cutbox-rows.mjs): the forced cells as the released guide's own fill.sh prints them over the translation 4671e7c0d929b48f… (all of the seat's roots in one cut). By AI agents, Wed Nov 11 2026. No macro, syntax, notation, axiom, sorry.
-/
import Derived.Test.YtlpkcdgkkjmagaaChecked
import GoSem.Claim
import GoSem.ClaimJoined
import GoSem.ClaimMapViews
import Derived.JoinedTies
import Derived.KernelRfl
namespace Go.Proofs.Ytlpkcdgkkjmagaa
/- THE CELL 'sum', in the pinned program and in every row, IS THE sha256 OF THE DUMP (.gsa) THAT YtlpkcdgkkjmagaaProg.lean LOADS. Nothing in Lean hashes anything: it is a label: what it is worth is what the hold of that sum in a sandbox is worth. -/
noncomputable def Try.pinned : Pinned := { name := "ytlpkcdgkkjmagaa", sum := "4671e7c0d929b48f52e06dd6a69f89ef81a05de099dd5a044f0f61bcb3442809", checked := Try.checked }
namespace Rows
def none {H : Type} : Left H := { results := [], args := [] }

/-- 'laws.FnExactFindDef': WHATEVER THE INPUT: true; the input reads as it did. -/
def fnExactFindDefSpec : ChangeSpec := { name := "fnExactFindDef", fn := fun _ => fun
  | [d1, d2] => { results := [.lit (.bool true)], args := [d1, d2] }
  | _ => none }
def fnExactFindDefRow : OpenClaim := { program := "ytlpkcdgkkjmagaa", sum := "4671e7c0d929b48f52e06dd6a69f89ef81a05de099dd5a044f0f61bcb3442809", func := "loop.example/g03411/laws.FnExactFindDef", spec := "fnExactFindDef", unfollowed := true, recurses := true, apart := false }
def FnExactFindDefSaid : Prop := fnExactFindDefRow.holds Try.pinned (OpenSpec.ofChange fnExactFindDefSpec)

/-- ITS FALSE NEIGHBOUR: 'it returns false'. Refute it at one input. -/
def fnExactFindDefWrong : ChangeSpec := { name := "fnExactFindDef", fn := fun _ => fun
  | [d1, d2] => { results := [.lit (.bool false)], args := [d1, d2] }
  | _ => none }
def FnExactFindDefWrongFalsely : Prop := fnExactFindDefRow.holds Try.pinned (OpenSpec.ofChange fnExactFindDefWrong)

/-- 'laws.FnExactIsDef': WHATEVER THE INPUT: true; the input reads as it did. -/
def fnExactIsDefSpec : ChangeSpec := { name := "fnExactIsDef", fn := fun _ => fun
  | [d] => { results := [.lit (.bool true)], args := [d] }
  | _ => none }
def fnExactIsDefRow : OpenClaim := { program := "ytlpkcdgkkjmagaa", sum := "4671e7c0d929b48f52e06dd6a69f89ef81a05de099dd5a044f0f61bcb3442809", func := "loop.example/g03411/laws.FnExactIsDef", spec := "fnExactIsDef", apart := false }
def FnExactIsDefSaid : Prop := fnExactIsDefRow.holds Try.pinned (OpenSpec.ofChange fnExactIsDefSpec)

/-- ITS FALSE NEIGHBOUR: 'it returns false'. Refute it at one input. -/
def fnExactIsDefWrong : ChangeSpec := { name := "fnExactIsDef", fn := fun _ => fun
  | [d] => { results := [.lit (.bool false)], args := [d] }
  | _ => none }
def FnExactIsDefWrongFalsely : Prop := fnExactIsDefRow.holds Try.pinned (OpenSpec.ofChange fnExactIsDefWrong)

/-- 'laws.FnExactIsSheet': WHATEVER THE INPUT: true; the input reads as it did. -/
def fnExactIsSheetSpec : ChangeSpec := { name := "fnExactIsSheet", fn := fun _ => fun
  | [d] => { results := [.lit (.bool true)], args := [d] }
  | _ => none }
def fnExactIsSheetRow : OpenClaim := { program := "ytlpkcdgkkjmagaa", sum := "4671e7c0d929b48f52e06dd6a69f89ef81a05de099dd5a044f0f61bcb3442809", func := "loop.example/g03411/laws.FnExactIsSheet", spec := "fnExactIsSheet", unfollowed := true, recurses := true, apart := false }
def FnExactIsSheetSaid : Prop := fnExactIsSheetRow.holds Try.pinned (OpenSpec.ofChange fnExactIsSheetSpec)

/-- ITS FALSE NEIGHBOUR: 'it returns false'. Refute it at one input. -/
def fnExactIsSheetWrong : ChangeSpec := { name := "fnExactIsSheet", fn := fun _ => fun
  | [d] => { results := [.lit (.bool false)], args := [d] }
  | _ => none }
def FnExactIsSheetWrongFalsely : Prop := fnExactIsSheetRow.holds Try.pinned (OpenSpec.ofChange fnExactIsSheetWrong)

/-- 'laws.FnExactDependentsOf': WHATEVER THE INPUT: true; the input reads as it did. -/
def fnExactDependentsOfSpec : ChangeSpec := { name := "fnExactDependentsOf", fn := fun _ => fun
  | [d1, d2] => { results := [.lit (.bool true)], args := [d1, d2] }
  | _ => none }
def fnExactDependentsOfRow : OpenClaim := { program := "ytlpkcdgkkjmagaa", sum := "4671e7c0d929b48f52e06dd6a69f89ef81a05de099dd5a044f0f61bcb3442809", func := "loop.example/g03411/laws.FnExactDependentsOf", spec := "fnExactDependentsOf", unfollowed := true, recurses := true, apart := false }
def FnExactDependentsOfSaid : Prop := fnExactDependentsOfRow.holds Try.pinned (OpenSpec.ofChange fnExactDependentsOfSpec)

/-- ITS FALSE NEIGHBOUR: 'it returns false'. Refute it at one input. -/
def fnExactDependentsOfWrong : ChangeSpec := { name := "fnExactDependentsOf", fn := fun _ => fun
  | [d1, d2] => { results := [.lit (.bool false)], args := [d1, d2] }
  | _ => none }
def FnExactDependentsOfWrongFalsely : Prop := fnExactDependentsOfRow.holds Try.pinned (OpenSpec.ofChange fnExactDependentsOfWrong)

/-- 'laws.FnExactSetDef': WHATEVER THE INPUT: true; the input reads as it did. -/
def fnExactSetDefSpec : ChangeSpec := { name := "fnExactSetDef", fn := fun _ => fun
  | [d1, d2] => { results := [.lit (.bool true)], args := [d1, d2] }
  | _ => none }
def fnExactSetDefRow : OpenClaim := { program := "ytlpkcdgkkjmagaa", sum := "4671e7c0d929b48f52e06dd6a69f89ef81a05de099dd5a044f0f61bcb3442809", func := "loop.example/g03411/laws.FnExactSetDef", spec := "fnExactSetDef", unfollowed := true, recurses := true, apart := false }
def FnExactSetDefSaid : Prop := fnExactSetDefRow.holds Try.pinned (OpenSpec.ofChange fnExactSetDefSpec)

/-- ITS FALSE NEIGHBOUR: 'it returns false'. Refute it at one input. -/
def fnExactSetDefWrong : ChangeSpec := { name := "fnExactSetDef", fn := fun _ => fun
  | [d1, d2] => { results := [.lit (.bool false)], args := [d1, d2] }
  | _ => none }
def FnExactSetDefWrongFalsely : Prop := fnExactSetDefRow.holds Try.pinned (OpenSpec.ofChange fnExactSetDefWrong)

/- THE SECOND FORM. 'bulk': how many values and letters a reading holds, each counted each time it is reached (what is shared counts as often as it is met; a slice's spare places count too). A statement '..UptoSaid' is the law's where the arguments, and the package variables that the reading takes, are together of bulk at most 1048576: NARROWER than '..Said'. Prove '..Said' where nothing that the law and all that it calls make is longer than what came in: it says more and counts as full. Else prove '..UptoSaid'. A law counts once. -/
mutual
def uptoBulk {H : Type} : DataW H → Nat
  | .lit (.string bytes) => bytes.length + 1
  | .lit _ => 1
  | .nil => 1
  | .ptr d => uptoBulk d + 1
  | .slice elems spare => uptoBulkAll elems + uptoBulkAll spare + 1
  | .agg parts => uptoBulkAll parts + 1
  | .iface _ d => uptoBulk d + 1
  | .map entries => uptoBulkEntries entries + 1
  | .held _ => 1
def uptoBulkAll {H : Type} : List (DataW H) → Nat
  | [] => 0
  | d :: r => uptoBulk d + uptoBulkAll r
def uptoBulkEntries {H : Type} : List (Lit × DataW H) → Nat
  | [] => 0
  | x :: r => uptoBulkEntry x + uptoBulkEntries r
def uptoBulkEntry {H : Type} : Lit × DataW H → Nat
  | (.string bytes, d) => bytes.length + uptoBulk d + 1
  | (_, d) => uptoBulk d + 1
 end
def uptoSmall : (H : Type) → List (DataW H) → Bool := fun _ ds => decide (uptoBulkAll ds ≤ 1048576)
def OpenSpec.upto (s : _root_.Go.ChangeSpec) : _root_.Go.OpenSpec := { _root_.Go.OpenSpec.ofChange s with cond := some uptoSmall }

/-- 'laws.FnExactFindDef', WHERE WHAT IT READS IS OF BULK AT MOST 1048576: true; the input reads as it did. -/
def fnExactFindDefUptoRow : OpenClaim := { program := "ytlpkcdgkkjmagaa", sum := "4671e7c0d929b48f52e06dd6a69f89ef81a05de099dd5a044f0f61bcb3442809", func := "loop.example/g03411/laws.FnExactFindDef", spec := "fnExactFindDef", unfollowed := true, recurses := true, apart := false, narrowed := true }
def FnExactFindDefUptoSaid : Prop := fnExactFindDefUptoRow.holds Try.pinned (OpenSpec.upto fnExactFindDefSpec)

/-- 'laws.FnExactIsDef', WHERE WHAT IT READS IS OF BULK AT MOST 1048576: true; the input reads as it did. -/
def fnExactIsDefUptoRow : OpenClaim := { program := "ytlpkcdgkkjmagaa", sum := "4671e7c0d929b48f52e06dd6a69f89ef81a05de099dd5a044f0f61bcb3442809", func := "loop.example/g03411/laws.FnExactIsDef", spec := "fnExactIsDef", apart := false, narrowed := true }
def FnExactIsDefUptoSaid : Prop := fnExactIsDefUptoRow.holds Try.pinned (OpenSpec.upto fnExactIsDefSpec)

/-- 'laws.FnExactIsSheet', WHERE WHAT IT READS IS OF BULK AT MOST 1048576: true; the input reads as it did. -/
def fnExactIsSheetUptoRow : OpenClaim := { program := "ytlpkcdgkkjmagaa", sum := "4671e7c0d929b48f52e06dd6a69f89ef81a05de099dd5a044f0f61bcb3442809", func := "loop.example/g03411/laws.FnExactIsSheet", spec := "fnExactIsSheet", unfollowed := true, recurses := true, apart := false, narrowed := true }
def FnExactIsSheetUptoSaid : Prop := fnExactIsSheetUptoRow.holds Try.pinned (OpenSpec.upto fnExactIsSheetSpec)

/-- 'laws.FnExactDependentsOf', WHERE WHAT IT READS IS OF BULK AT MOST 1048576: true; the input reads as it did. -/
def fnExactDependentsOfUptoRow : OpenClaim := { program := "ytlpkcdgkkjmagaa", sum := "4671e7c0d929b48f52e06dd6a69f89ef81a05de099dd5a044f0f61bcb3442809", func := "loop.example/g03411/laws.FnExactDependentsOf", spec := "fnExactDependentsOf", unfollowed := true, recurses := true, apart := false, narrowed := true }
def FnExactDependentsOfUptoSaid : Prop := fnExactDependentsOfUptoRow.holds Try.pinned (OpenSpec.upto fnExactDependentsOfSpec)

/-- 'laws.FnExactSetDef', WHERE WHAT IT READS IS OF BULK AT MOST 1048576: true; the input reads as it did. -/
def fnExactSetDefUptoRow : OpenClaim := { program := "ytlpkcdgkkjmagaa", sum := "4671e7c0d929b48f52e06dd6a69f89ef81a05de099dd5a044f0f61bcb3442809", func := "loop.example/g03411/laws.FnExactSetDef", spec := "fnExactSetDef", unfollowed := true, recurses := true, apart := false, narrowed := true }
def FnExactSetDefUptoSaid : Prop := fnExactSetDefUptoRow.holds Try.pinned (OpenSpec.upto fnExactSetDefSpec)

end Rows
end Go.Proofs.Ytlpkcdgkkjmagaa
