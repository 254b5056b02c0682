/-
  No cell of these rows narrows 'for every input' (looked for: loops, veiled, ifaces, maps, wideKeys, modest, calm, conditions, laid).
  DERIVED. THE GIVEN ROWS OF THIS SEAT. 6 by the template 'for every input the law returns true; each argument reads behind the call as it read before'; 0 by the template 'total and deterministic' (their statements: YtodemejfbekjgaaTotals.lean).
  GIVEN WITH THE SEED: the statements are not yours to turn. If you find one false, say at which input.
  Laid BY PROGRAM, IN A SANDBOX (cutbox-rows.mjs): the forced cells as the released guide's own fill.sh prints them over the translation 3d9d3b59d0800d21… (all of the seat's roots in one cut). By AI agents, Wed Nov 11 2026. No macro, syntax, notation, axiom, sorry.
-/
import Derived.Test.YtodemejfbekjgaaChecked
import GoSem.Claim
import GoSem.ClaimJoined
import GoSem.ClaimMapViews
import Derived.JoinedTies
import Derived.KernelRfl
namespace Go.Proofs.Ytodemejfbekjgaa
/- THE CELL 'sum', in the pinned program and in every row, IS THE sha256 OF THE DUMP (.gsa) THAT YtodemejfbekjgaaProg.lean LOADS. Nothing in Lean hashes anything: it is a label: what it is worth is what the hold of that sum in a sandbox is worth. -/
noncomputable def Try.pinned : Pinned := { name := "ytodemejfbekjgaa", sum := "3d9d3b59d0800d21eb3107520977780be1b0a1476d0448b988e28a1caceee380", checked := Try.checked }
namespace Rows
def none {H : Type} : Left H := { results := [], args := [] }

/-- 'laws.FnExactIsMap': WHATEVER THE INPUT: true; the input reads as it did. -/
def fnExactIsMapSpec : ChangeSpec := { name := "fnExactIsMap", fn := fun _ => fun
  | [d1, d2, d3] => { results := [.lit (.bool true)], args := [d1, d2, d3] }
  | _ => none }
def fnExactIsMapRow : OpenClaim := { program := "ytodemejfbekjgaa", sum := "3d9d3b59d0800d21eb3107520977780be1b0a1476d0448b988e28a1caceee380", func := "loop.example/g03411/laws.FnExactIsMap", spec := "fnExactIsMap", unfollowed := true, recurses := true, apart := false }
def FnExactIsMapSaid : Prop := fnExactIsMapRow.holds Try.pinned (OpenSpec.ofChange fnExactIsMapSpec)

/-- ITS FALSE NEIGHBOUR: 'it returns false'. Refute it at one input. -/
def fnExactIsMapWrong : ChangeSpec := { name := "fnExactIsMap", fn := fun _ => fun
  | [d1, d2, d3] => { results := [.lit (.bool false)], args := [d1, d2, d3] }
  | _ => none }
def FnExactIsMapWrongFalsely : Prop := fnExactIsMapRow.holds Try.pinned (OpenSpec.ofChange fnExactIsMapWrong)

/-- 'laws.FnExactIsExactAt': WHATEVER THE INPUT: true; the input reads as it did. -/
def fnExactIsExactAtSpec : ChangeSpec := { name := "fnExactIsExactAt", fn := fun _ => fun
  | [d1, d2, d3, d4, d5] => { results := [.lit (.bool true)], args := [d1, d2, d3, d4, d5] }
  | _ => none }
def fnExactIsExactAtRow : OpenClaim := { program := "ytodemejfbekjgaa", sum := "3d9d3b59d0800d21eb3107520977780be1b0a1476d0448b988e28a1caceee380", func := "loop.example/g03411/laws.FnExactIsExactAt", spec := "fnExactIsExactAt", unfollowed := true, recurses := true, apart := false }
def FnExactIsExactAtSaid : Prop := fnExactIsExactAtRow.holds Try.pinned (OpenSpec.ofChange fnExactIsExactAtSpec)

/-- ITS FALSE NEIGHBOUR: 'it returns false'. Refute it at one input. -/
def fnExactIsExactAtWrong : ChangeSpec := { name := "fnExactIsExactAt", fn := fun _ => fun
  | [d1, d2, d3, d4, d5] => { results := [.lit (.bool false)], args := [d1, d2, d3, d4, d5] }
  | _ => none }
def FnExactIsExactAtWrongFalsely : Prop := fnExactIsExactAtRow.holds Try.pinned (OpenSpec.ofChange fnExactIsExactAtWrong)

/-- 'laws.FnExactOrderIn': WHATEVER THE INPUT: true; the input reads as it did. -/
def fnExactOrderInSpec : ChangeSpec := { name := "fnExactOrderIn", fn := fun _ => fun
  | [d1, d2] => { results := [.lit (.bool true)], args := [d1, d2] }
  | _ => none }
def fnExactOrderInRow : OpenClaim := { program := "ytodemejfbekjgaa", sum := "3d9d3b59d0800d21eb3107520977780be1b0a1476d0448b988e28a1caceee380", func := "loop.example/g03411/laws.FnExactOrderIn", spec := "fnExactOrderIn", unfollowed := true, recurses := true, apart := false }
def FnExactOrderInSaid : Prop := fnExactOrderInRow.holds Try.pinned (OpenSpec.ofChange fnExactOrderInSpec)

/-- ITS FALSE NEIGHBOUR: 'it returns false'. Refute it at one input. -/
def fnExactOrderInWrong : ChangeSpec := { name := "fnExactOrderIn", fn := fun _ => fun
  | [d1, d2] => { results := [.lit (.bool false)], args := [d1, d2] }
  | _ => none }
def FnExactOrderInWrongFalsely : Prop := fnExactOrderInRow.holds Try.pinned (OpenSpec.ofChange fnExactOrderInWrong)

/-- 'laws.FnExactTorsionOf': WHATEVER THE INPUT: true; the input reads as it did. -/
def fnExactTorsionOfSpec : ChangeSpec := { name := "fnExactTorsionOf", fn := fun _ => fun
  | [d1, d2] => { results := [.lit (.bool true)], args := [d1, d2] }
  | _ => none }
def fnExactTorsionOfRow : OpenClaim := { program := "ytodemejfbekjgaa", sum := "3d9d3b59d0800d21eb3107520977780be1b0a1476d0448b988e28a1caceee380", func := "loop.example/g03411/laws.FnExactTorsionOf", spec := "fnExactTorsionOf", unfollowed := true, recurses := true, apart := false }
def FnExactTorsionOfSaid : Prop := fnExactTorsionOfRow.holds Try.pinned (OpenSpec.ofChange fnExactTorsionOfSpec)

/-- ITS FALSE NEIGHBOUR: 'it returns false'. Refute it at one input. -/
def fnExactTorsionOfWrong : ChangeSpec := { name := "fnExactTorsionOf", fn := fun _ => fun
  | [d1, d2] => { results := [.lit (.bool false)], args := [d1, d2] }
  | _ => none }
def FnExactTorsionOfWrongFalsely : Prop := fnExactTorsionOfRow.holds Try.pinned (OpenSpec.ofChange fnExactTorsionOfWrong)

/-- 'laws.FnExactCokernelIn': WHATEVER THE INPUT: true; the input reads as it did. -/
def fnExactCokernelInSpec : ChangeSpec := { name := "fnExactCokernelIn", fn := fun _ => fun
  | [d1, d2, d3] => { results := [.lit (.bool true)], args := [d1, d2, d3] }
  | _ => none }
def fnExactCokernelInRow : OpenClaim := { program := "ytodemejfbekjgaa", sum := "3d9d3b59d0800d21eb3107520977780be1b0a1476d0448b988e28a1caceee380", func := "loop.example/g03411/laws.FnExactCokernelIn", spec := "fnExactCokernelIn", unfollowed := true, recurses := true, apart := false }
def FnExactCokernelInSaid : Prop := fnExactCokernelInRow.holds Try.pinned (OpenSpec.ofChange fnExactCokernelInSpec)

/-- ITS FALSE NEIGHBOUR: 'it returns false'. Refute it at one input. -/
def fnExactCokernelInWrong : ChangeSpec := { name := "fnExactCokernelIn", fn := fun _ => fun
  | [d1, d2, d3] => { results := [.lit (.bool false)], args := [d1, d2, d3] }
  | _ => none }
def FnExactCokernelInWrongFalsely : Prop := fnExactCokernelInRow.holds Try.pinned (OpenSpec.ofChange fnExactCokernelInWrong)

/-- 'laws.FnExactBettiMod': WHATEVER THE INPUT: true; the input reads as it did. -/
def fnExactBettiModSpec : ChangeSpec := { name := "fnExactBettiMod", fn := fun _ => fun
  | [d1, d2, d3] => { results := [.lit (.bool true)], args := [d1, d2, d3] }
  | _ => none }
def fnExactBettiModRow : OpenClaim := { program := "ytodemejfbekjgaa", sum := "3d9d3b59d0800d21eb3107520977780be1b0a1476d0448b988e28a1caceee380", func := "loop.example/g03411/laws.FnExactBettiMod", spec := "fnExactBettiMod", unfollowed := true, recurses := true, apart := false }
def FnExactBettiModSaid : Prop := fnExactBettiModRow.holds Try.pinned (OpenSpec.ofChange fnExactBettiModSpec)

/-- ITS FALSE NEIGHBOUR: 'it returns false'. Refute it at one input. -/
def fnExactBettiModWrong : ChangeSpec := { name := "fnExactBettiMod", fn := fun _ => fun
  | [d1, d2, d3] => { results := [.lit (.bool false)], args := [d1, d2, d3] }
  | _ => none }
def FnExactBettiModWrongFalsely : Prop := fnExactBettiModRow.holds Try.pinned (OpenSpec.ofChange fnExactBettiModWrong)

/- THE SECOND FORM. 'bulk': how many values and letters a reading holds, each counted each time it is reached (what is shared counts as often as it is met; a slice's spare places count too). A statement '..UptoSaid' is the law's where the arguments, and the package variables that the reading takes, are together of bulk at most 1048576: NARROWER than '..Said'. Prove '..Said' where nothing that the law and all that it calls make is longer than what came in: it says more and counts as full. Else prove '..UptoSaid'. A law counts once. -/
mutual
def uptoBulk {H : Type} : DataW H → Nat
  | .lit (.string bytes) => bytes.length + 1
  | .lit _ => 1
  | .nil => 1
  | .ptr d => uptoBulk d + 1
  | .slice elems spare => uptoBulkAll elems + uptoBulkAll spare + 1
  | .agg parts => uptoBulkAll parts + 1
  | .iface _ d => uptoBulk d + 1
  | .map entries => uptoBulkEntries entries + 1
  | .held _ => 1
def uptoBulkAll {H : Type} : List (DataW H) → Nat
  | [] => 0
  | d :: r => uptoBulk d + uptoBulkAll r
def uptoBulkEntries {H : Type} : List (Lit × DataW H) → Nat
  | [] => 0
  | x :: r => uptoBulkEntry x + uptoBulkEntries r
def uptoBulkEntry {H : Type} : Lit × DataW H → Nat
  | (.string bytes, d) => bytes.length + uptoBulk d + 1
  | (_, d) => uptoBulk d + 1
 end
def uptoSmall : (H : Type) → List (DataW H) → Bool := fun _ ds => decide (uptoBulkAll ds ≤ 1048576)
def OpenSpec.upto (s : _root_.Go.ChangeSpec) : _root_.Go.OpenSpec := { _root_.Go.OpenSpec.ofChange s with cond := some uptoSmall }

/-- 'laws.FnExactIsMap', WHERE WHAT IT READS IS OF BULK AT MOST 1048576: true; the input reads as it did. -/
def fnExactIsMapUptoRow : OpenClaim := { program := "ytodemejfbekjgaa", sum := "3d9d3b59d0800d21eb3107520977780be1b0a1476d0448b988e28a1caceee380", func := "loop.example/g03411/laws.FnExactIsMap", spec := "fnExactIsMap", unfollowed := true, recurses := true, apart := false, narrowed := true }
def FnExactIsMapUptoSaid : Prop := fnExactIsMapUptoRow.holds Try.pinned (OpenSpec.upto fnExactIsMapSpec)

/-- 'laws.FnExactIsExactAt', WHERE WHAT IT READS IS OF BULK AT MOST 1048576: true; the input reads as it did. -/
def fnExactIsExactAtUptoRow : OpenClaim := { program := "ytodemejfbekjgaa", sum := "3d9d3b59d0800d21eb3107520977780be1b0a1476d0448b988e28a1caceee380", func := "loop.example/g03411/laws.FnExactIsExactAt", spec := "fnExactIsExactAt", unfollowed := true, recurses := true, apart := false, narrowed := true }
def FnExactIsExactAtUptoSaid : Prop := fnExactIsExactAtUptoRow.holds Try.pinned (OpenSpec.upto fnExactIsExactAtSpec)

/-- 'laws.FnExactOrderIn', WHERE WHAT IT READS IS OF BULK AT MOST 1048576: true; the input reads as it did. -/
def fnExactOrderInUptoRow : OpenClaim := { program := "ytodemejfbekjgaa", sum := "3d9d3b59d0800d21eb3107520977780be1b0a1476d0448b988e28a1caceee380", func := "loop.example/g03411/laws.FnExactOrderIn", spec := "fnExactOrderIn", unfollowed := true, recurses := true, apart := false, narrowed := true }
def FnExactOrderInUptoSaid : Prop := fnExactOrderInUptoRow.holds Try.pinned (OpenSpec.upto fnExactOrderInSpec)

/-- 'laws.FnExactTorsionOf', WHERE WHAT IT READS IS OF BULK AT MOST 1048576: true; the input reads as it did. -/
def fnExactTorsionOfUptoRow : OpenClaim := { program := "ytodemejfbekjgaa", sum := "3d9d3b59d0800d21eb3107520977780be1b0a1476d0448b988e28a1caceee380", func := "loop.example/g03411/laws.FnExactTorsionOf", spec := "fnExactTorsionOf", unfollowed := true, recurses := true, apart := false, narrowed := true }
def FnExactTorsionOfUptoSaid : Prop := fnExactTorsionOfUptoRow.holds Try.pinned (OpenSpec.upto fnExactTorsionOfSpec)

/-- 'laws.FnExactCokernelIn', WHERE WHAT IT READS IS OF BULK AT MOST 1048576: true; the input reads as it did. -/
def fnExactCokernelInUptoRow : OpenClaim := { program := "ytodemejfbekjgaa", sum := "3d9d3b59d0800d21eb3107520977780be1b0a1476d0448b988e28a1caceee380", func := "loop.example/g03411/laws.FnExactCokernelIn", spec := "fnExactCokernelIn", unfollowed := true, recurses := true, apart := false, narrowed := true }
def FnExactCokernelInUptoSaid : Prop := fnExactCokernelInUptoRow.holds Try.pinned (OpenSpec.upto fnExactCokernelInSpec)

/-- 'laws.FnExactBettiMod', WHERE WHAT IT READS IS OF BULK AT MOST 1048576: true; the input reads as it did. -/
def fnExactBettiModUptoRow : OpenClaim := { program := "ytodemejfbekjgaa", sum := "3d9d3b59d0800d21eb3107520977780be1b0a1476d0448b988e28a1caceee380", func := "loop.example/g03411/laws.FnExactBettiMod", spec := "fnExactBettiMod", unfollowed := true, recurses := true, apart := false, narrowed := true }
def FnExactBettiModUptoSaid : Prop := fnExactBettiModUptoRow.holds Try.pinned (OpenSpec.upto fnExactBettiModSpec)

end Rows
end Go.Proofs.Ytodemejfbekjgaa
