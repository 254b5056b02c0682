/-
  No cell of these rows narrows 'for every input' (looked for: loops, veiled, ifaces, maps, wideKeys, modest, calm, conditions, laid).
  DERIVED. THE GIVEN ROWS OF THIS SEAT. 4 by the template 'for every input the law returns true; each argument reads behind the call as it read before'; 0 by the template 'total and deterministic' (their statements: YtodemejfbekjgaaGreatTotals.lean).
  GIVEN WITH THE SEED: the statements are not yours to turn. If you find one false, say at which input.
  Laid BY PROGRAM, IN A SANDBOX (cutbox-rows.mjs): the forced cells as the released guide's own fill.sh prints them over the translation 45d07ab0b75c391b… (all of the seat's roots in one cut). By AI agents, Wed Nov 11 2026. No macro, syntax, notation, axiom, sorry.
-/
import Derived.Test.YtodemejfbekjgaaGreatChecked
import GoSem.Claim
import GoSem.ClaimJoined
import GoSem.ClaimMapViews
import Derived.JoinedTies
import Derived.KernelRfl
namespace Go.Proofs.YtodemejfbekjgaaGreat
/- THE CELL 'sum', in the pinned program and in every row, IS THE sha256 OF THE DUMP (.gsa) THAT YtodemejfbekjgaaGreatProg.lean LOADS. Nothing in Lean hashes anything: it is a label: what it is worth is what the hold of that sum in a sandbox is worth. -/
noncomputable def Tryz.pinned : Pinned := { name := "ytodemejfbekjgaagreat", sum := "45d07ab0b75c391b7b574ebb2c95c5e0288a0b4829c12ef578f05b9bd37bafe5", checked := Tryz.checked }
namespace Rows
def none {H : Type} : Left H := { results := [], args := [] }

/-- 'laws.FnExactImageIn': WHATEVER THE INPUT: true; the input reads as it did. -/
def fnExactImageInSpec : ChangeSpec := { name := "fnExactImageIn", fn := fun _ => fun
  | [d1, d2, d3] => { results := [.lit (.bool true)], args := [d1, d2, d3] }
  | _ => none }
def fnExactImageInRow : OpenClaim := { program := "ytodemejfbekjgaagreat", sum := "45d07ab0b75c391b7b574ebb2c95c5e0288a0b4829c12ef578f05b9bd37bafe5", func := "loop.example/g03411/laws.FnExactImageIn", spec := "fnExactImageIn", unfollowed := true, recurses := true, apart := false }
def FnExactImageInSaid : Prop := fnExactImageInRow.holds Tryz.pinned (OpenSpec.ofChange fnExactImageInSpec)

/-- ITS FALSE NEIGHBOUR: 'it returns false'. Refute it at one input. -/
def fnExactImageInWrong : ChangeSpec := { name := "fnExactImageIn", fn := fun _ => fun
  | [d1, d2, d3] => { results := [.lit (.bool false)], args := [d1, d2, d3] }
  | _ => none }
def FnExactImageInWrongFalsely : Prop := fnExactImageInRow.holds Tryz.pinned (OpenSpec.ofChange fnExactImageInWrong)

/-- 'laws.FnExactKernelIn': WHATEVER THE INPUT: true; the input reads as it did. -/
def fnExactKernelInSpec : ChangeSpec := { name := "fnExactKernelIn", fn := fun _ => fun
  | [d1, d2, d3] => { results := [.lit (.bool true)], args := [d1, d2, d3] }
  | _ => none }
def fnExactKernelInRow : OpenClaim := { program := "ytodemejfbekjgaagreat", sum := "45d07ab0b75c391b7b574ebb2c95c5e0288a0b4829c12ef578f05b9bd37bafe5", func := "loop.example/g03411/laws.FnExactKernelIn", spec := "fnExactKernelIn", unfollowed := true, recurses := true, apart := false }
def FnExactKernelInSaid : Prop := fnExactKernelInRow.holds Tryz.pinned (OpenSpec.ofChange fnExactKernelInSpec)

/-- ITS FALSE NEIGHBOUR: 'it returns false'. Refute it at one input. -/
def fnExactKernelInWrong : ChangeSpec := { name := "fnExactKernelIn", fn := fun _ => fun
  | [d1, d2, d3] => { results := [.lit (.bool false)], args := [d1, d2, d3] }
  | _ => none }
def FnExactKernelInWrongFalsely : Prop := fnExactKernelInRow.holds Tryz.pinned (OpenSpec.ofChange fnExactKernelInWrong)

/-- 'laws.FnExactHomologyOf': WHATEVER THE INPUT: true; the input reads as it did. -/
def fnExactHomologyOfSpec : ChangeSpec := { name := "fnExactHomologyOf", fn := fun _ => fun
  | [d1, d2] => { results := [.lit (.bool true)], args := [d1, d2] }
  | _ => none }
def fnExactHomologyOfRow : OpenClaim := { program := "ytodemejfbekjgaagreat", sum := "45d07ab0b75c391b7b574ebb2c95c5e0288a0b4829c12ef578f05b9bd37bafe5", func := "loop.example/g03411/laws.FnExactHomologyOf", spec := "fnExactHomologyOf", unfollowed := true, recurses := true, apart := false }
def FnExactHomologyOfSaid : Prop := fnExactHomologyOfRow.holds Tryz.pinned (OpenSpec.ofChange fnExactHomologyOfSpec)

/-- ITS FALSE NEIGHBOUR: 'it returns false'. Refute it at one input. -/
def fnExactHomologyOfWrong : ChangeSpec := { name := "fnExactHomologyOf", fn := fun _ => fun
  | [d1, d2] => { results := [.lit (.bool false)], args := [d1, d2] }
  | _ => none }
def FnExactHomologyOfWrongFalsely : Prop := fnExactHomologyOfRow.holds Tryz.pinned (OpenSpec.ofChange fnExactHomologyOfWrong)

/-- 'laws.FnExactCohomologyOf': WHATEVER THE INPUT: true; the input reads as it did. -/
def fnExactCohomologyOfSpec : ChangeSpec := { name := "fnExactCohomologyOf", fn := fun _ => fun
  | [d1, d2] => { results := [.lit (.bool true)], args := [d1, d2] }
  | _ => none }
def fnExactCohomologyOfRow : OpenClaim := { program := "ytodemejfbekjgaagreat", sum := "45d07ab0b75c391b7b574ebb2c95c5e0288a0b4829c12ef578f05b9bd37bafe5", func := "loop.example/g03411/laws.FnExactCohomologyOf", spec := "fnExactCohomologyOf", unfollowed := true, recurses := true, apart := false }
def FnExactCohomologyOfSaid : Prop := fnExactCohomologyOfRow.holds Tryz.pinned (OpenSpec.ofChange fnExactCohomologyOfSpec)

/-- ITS FALSE NEIGHBOUR: 'it returns false'. Refute it at one input. -/
def fnExactCohomologyOfWrong : ChangeSpec := { name := "fnExactCohomologyOf", fn := fun _ => fun
  | [d1, d2] => { results := [.lit (.bool false)], args := [d1, d2] }
  | _ => none }
def FnExactCohomologyOfWrongFalsely : Prop := fnExactCohomologyOfRow.holds Tryz.pinned (OpenSpec.ofChange fnExactCohomologyOfWrong)

/- THE SECOND FORM. 'bulk': how many values and letters a reading holds, each counted each time it is reached (what is shared counts as often as it is met; a slice's spare places count too). A statement '..UptoSaid' is the law's where the arguments, and the package variables that the reading takes, are together of bulk at most 1048576: NARROWER than '..Said'. Prove '..Said' where nothing that the law and all that it calls make is longer than what came in: it says more and counts as full. Else prove '..UptoSaid'. A law counts once. -/
mutual
def uptoBulk {H : Type} : DataW H → Nat
  | .lit (.string bytes) => bytes.length + 1
  | .lit _ => 1
  | .nil => 1
  | .ptr d => uptoBulk d + 1
  | .slice elems spare => uptoBulkAll elems + uptoBulkAll spare + 1
  | .agg parts => uptoBulkAll parts + 1
  | .iface _ d => uptoBulk d + 1
  | .map entries => uptoBulkEntries entries + 1
  | .held _ => 1
def uptoBulkAll {H : Type} : List (DataW H) → Nat
  | [] => 0
  | d :: r => uptoBulk d + uptoBulkAll r
def uptoBulkEntries {H : Type} : List (Lit × DataW H) → Nat
  | [] => 0
  | x :: r => uptoBulkEntry x + uptoBulkEntries r
def uptoBulkEntry {H : Type} : Lit × DataW H → Nat
  | (.string bytes, d) => bytes.length + uptoBulk d + 1
  | (_, d) => uptoBulk d + 1
 end
def uptoSmall : (H : Type) → List (DataW H) → Bool := fun _ ds => decide (uptoBulkAll ds ≤ 1048576)
def OpenSpec.upto (s : _root_.Go.ChangeSpec) : _root_.Go.OpenSpec := { _root_.Go.OpenSpec.ofChange s with cond := some uptoSmall }

/-- 'laws.FnExactImageIn', WHERE WHAT IT READS IS OF BULK AT MOST 1048576: true; the input reads as it did. -/
def fnExactImageInUptoRow : OpenClaim := { program := "ytodemejfbekjgaagreat", sum := "45d07ab0b75c391b7b574ebb2c95c5e0288a0b4829c12ef578f05b9bd37bafe5", func := "loop.example/g03411/laws.FnExactImageIn", spec := "fnExactImageIn", unfollowed := true, recurses := true, apart := false, narrowed := true }
def FnExactImageInUptoSaid : Prop := fnExactImageInUptoRow.holds Tryz.pinned (OpenSpec.upto fnExactImageInSpec)

/-- 'laws.FnExactKernelIn', WHERE WHAT IT READS IS OF BULK AT MOST 1048576: true; the input reads as it did. -/
def fnExactKernelInUptoRow : OpenClaim := { program := "ytodemejfbekjgaagreat", sum := "45d07ab0b75c391b7b574ebb2c95c5e0288a0b4829c12ef578f05b9bd37bafe5", func := "loop.example/g03411/laws.FnExactKernelIn", spec := "fnExactKernelIn", unfollowed := true, recurses := true, apart := false, narrowed := true }
def FnExactKernelInUptoSaid : Prop := fnExactKernelInUptoRow.holds Tryz.pinned (OpenSpec.upto fnExactKernelInSpec)

/-- 'laws.FnExactHomologyOf', WHERE WHAT IT READS IS OF BULK AT MOST 1048576: true; the input reads as it did. -/
def fnExactHomologyOfUptoRow : OpenClaim := { program := "ytodemejfbekjgaagreat", sum := "45d07ab0b75c391b7b574ebb2c95c5e0288a0b4829c12ef578f05b9bd37bafe5", func := "loop.example/g03411/laws.FnExactHomologyOf", spec := "fnExactHomologyOf", unfollowed := true, recurses := true, apart := false, narrowed := true }
def FnExactHomologyOfUptoSaid : Prop := fnExactHomologyOfUptoRow.holds Tryz.pinned (OpenSpec.upto fnExactHomologyOfSpec)

/-- 'laws.FnExactCohomologyOf', WHERE WHAT IT READS IS OF BULK AT MOST 1048576: true; the input reads as it did. -/
def fnExactCohomologyOfUptoRow : OpenClaim := { program := "ytodemejfbekjgaagreat", sum := "45d07ab0b75c391b7b574ebb2c95c5e0288a0b4829c12ef578f05b9bd37bafe5", func := "loop.example/g03411/laws.FnExactCohomologyOf", spec := "fnExactCohomologyOf", unfollowed := true, recurses := true, apart := false, narrowed := true }
def FnExactCohomologyOfUptoSaid : Prop := fnExactCohomologyOfUptoRow.holds Tryz.pinned (OpenSpec.upto fnExactCohomologyOfSpec)

end Rows
end Go.Proofs.YtodemejfbekjgaaGreat
